/- What is proved here is used by the law below: contracts of functions and plain lemmas (part 3 of 17). Their conditions stand in each. -/
import Derived.Test.YtbeojfhakmbacaaProg
import Derived.Laws.IdiomStrings
import Derived.Laws.CopyRow
import Derived.Laws.CopyOwn
import Derived.Test.YtbeojfhakmbacaaFinRjaa
import Derived.Test.YtbeojfhakmbacaaFinRjab
namespace Go.Proofs.Ytbeojfhakmbacaa
open Go.RowKit
set_option maxHeartbeats 4000000 in
theorem vReceiver_c (m : Int) (A1 A2 : Option Addr) (c1 c2 : Nat) (l : List Hd) (w : World) (h1 : Hid (Reads w w.heap.size 10 A1 l.length (hds l))) (h2 : Hid (Reads w w.heap.size 10 A2 l.length (hds l))) (b1 : l.length ≤ 4000000)  : Calls Try.prog 17 #[.agg #[.int .i64 m, .slice A1 l.length c1], .agg #[.int .i64 m, .slice A2 l.length c2]] w (Gives w (.bool true)) := by
  go_enter Try.func17, Try.ntmps17
  go_wp2
  go_loopw [5] (fun iv wr => ∃ i : Nat, i ≤ l.length ∧ iv = .int .i64 i ∧ (wr.cell? ⟨w.heap.size, 0, none⟩ = some (.int .i64 m) ∧ wr.cell? ⟨w.heap.size, 1, none⟩ = some (.slice A1 l.length c1) ∧ wr.cell? ⟨w.heap.size + 1, 0, none⟩ = some (.int .i64 m) ∧ wr.cell? ⟨w.heap.size + 1, 1, none⟩ = some (.slice A2 l.length c2) ∧ Below w.heap.size w wr)) (fun iv _ => l.length - (intOf iv).toNat)
  case atStart => exact ⟨0, by omega, rfl, by first | (with_reducible assumption) | (exact hS) | (exact ⟨hS.1, hS.2.1, hS.2.2.1, hS.2.2.2.1, (by go_grown)⟩) | (exact ⟨(by first | (with_reducible assumption) | (simp [go_sem]; done) | ((simp only [go_sem]); (with_reducible assumption)) | ((refine keep_cell ?_ (by with_reducible assumption)); go_grown; done) | (simp [go_sem, *]; done)), (by first | (with_reducible assumption) | (simp [go_sem]; done) | ((simp only [go_sem]); (with_reducible assumption)) | ((refine keep_cell ?_ (by with_reducible assumption)); go_grown; done) | (simp [go_sem, *]; done)), (by first | (with_reducible assumption) | (simp [go_sem]; done) | ((simp only [go_sem]); (with_reducible assumption)) | ((refine keep_cell ?_ (by with_reducible assumption)); go_grown; done) | (simp [go_sem, *]; done)), (by first | (with_reducible assumption) | (simp [go_sem]; done) | ((simp only [go_sem]); (with_reducible assumption)) | ((refine keep_cell ?_ (by with_reducible assumption)); go_grown; done) | (simp [go_sem, *]; done)), (by go_grown)⟩)⟩
  case round =>
    obtain ⟨i, hi, rfl, hS⟩ := hrel
    have hS2 := hS
    obtain ⟨r0, r1, r2, r3, hB⟩ := hS2
    have hzw : w.heap.size ≤ wr.heap.size := hB.size
    have hz1 : w.heap.size < wr.heap.size := World.block_lt_of_cell? wr _ (hS.1)
    have hz2 : w.heap.size + 1 < wr.heap.size := World.block_lt_of_cell? wr _ (hS.2.2.1)
    by_cases hlt : i < l.length
    · obtain ⟨⟨a, ⟨eo, ea, eb⟩, et, ⟨oo, oa, ob⟩, ot, f⟩, he⟩ : ∃ q, hx l i = q := ⟨_, rfl⟩
      obtain ⟨a1, rfl, ekb, e0, e1, e2, e3, e4, e5, e6, e7, e8, e9⟩ := (h1.out.below hB).hd (k := i) (by omega) he
      obtain ⟨a2, rfl, gkb, g0, g1, g2, g3, g4, g5, g6, g7, g8, g9⟩ := (h2.out.below hB).hd (k := i) (by omega) he
      clear he
      go_wp2
      refine wp_region_det (fun w' => w'.cell? ⟨w.heap.size, 0, none⟩ = some (.int .i64 m) ∧ w'.cell? ⟨w.heap.size, 1, none⟩ = some (.slice (some a1) l.length c1) ∧ w'.cell? ⟨w.heap.size + 1, 0, none⟩ = some (.int .i64 m) ∧ w'.cell? ⟨w.heap.size + 1, 1, none⟩ = some (.slice (some a2) l.length c2) ∧ w'.cell? (a1.add (i * 10)) = some (.int .i64 a) ∧ w'.cell? ⟨(a1.add (i * 10)).block, (a1.add (i * 10)).off + 1, none⟩ = some (.bool eo) ∧ w'.cell? ⟨(a1.add (i * 10)).block, (a1.add (i * 10)).off + 2, none⟩ = some (.int .i64 ea) ∧ w'.cell? ⟨(a1.add (i * 10)).block, (a1.add (i * 10)).off + 3, none⟩ = some (.int .i64 eb) ∧ w'.cell? ⟨(a1.add (i * 10)).block, (a1.add (i * 10)).off + 4, none⟩ = some (.int .i64 et) ∧ w'.cell? ⟨(a1.add (i * 10)).block, (a1.add (i * 10)).off + 5, none⟩ = some (.bool oo) ∧ w'.cell? ⟨(a1.add (i * 10)).block, (a1.add (i * 10)).off + 6, none⟩ = some (.int .i64 oa) ∧ w'.cell? ⟨(a1.add (i * 10)).block, (a1.add (i * 10)).off + 7, none⟩ = some (.int .i64 ob) ∧ w'.cell? ⟨(a1.add (i * 10)).block, (a1.add (i * 10)).off + 8, none⟩ = some (.int .i64 ot) ∧ w'.cell? ⟨(a1.add (i * 10)).block, (a1.add (i * 10)).off + 9, none⟩ = some (.int .i64 f) ∧ w'.cell? (a2.add (i * 10)) = some (.int .i64 a) ∧ w'.cell? ⟨(a2.add (i * 10)).block, (a2.add (i * 10)).off + 1, none⟩ = some (.bool eo) ∧ w'.cell? ⟨(a2.add (i * 10)).block, (a2.add (i * 10)).off + 2, none⟩ = some (.int .i64 ea) ∧ w'.cell? ⟨(a2.add (i * 10)).block, (a2.add (i * 10)).off + 3, none⟩ = some (.int .i64 eb) ∧ w'.cell? ⟨(a2.add (i * 10)).block, (a2.add (i * 10)).off + 4, none⟩ = some (.int .i64 et) ∧ w'.cell? ⟨(a2.add (i * 10)).block, (a2.add (i * 10)).off + 5, none⟩ = some (.bool oo) ∧ w'.cell? ⟨(a2.add (i * 10)).block, (a2.add (i * 10)).off + 6, none⟩ = some (.int .i64 oa) ∧ w'.cell? ⟨(a2.add (i * 10)).block, (a2.add (i * 10)).off + 7, none⟩ = some (.int .i64 ob) ∧ w'.cell? ⟨(a2.add (i * 10)).block, (a2.add (i * 10)).off + 8, none⟩ = some (.int .i64 ot) ∧ w'.cell? ⟨(a2.add (i * 10)).block, (a2.add (i * 10)).off + 9, none⟩ = some (.int .i64 f) ∧ Below w.heap.size w w') (by kernel_rfl) (by kernel_rfl) (by first | (with_reducible assumption) | (exact hS) | (exact ⟨hS.1, hS.2.1, hS.2.2.1, hS.2.2.2.1, hS.2.2.2.2.1, hS.2.2.2.2.2.1, hS.2.2.2.2.2.2.1, hS.2.2.2.2.2.2.2.1, hS.2.2.2.2.2.2.2.2.1, hS.2.2.2.2.2.2.2.2.2.1, hS.2.2.2.2.2.2.2.2.2.2.1, hS.2.2.2.2.2.2.2.2.2.2.2.1, hS.2.2.2.2.2.2.2.2.2.2.2.2.1, hS.2.2.2.2.2.2.2.2.2.2.2.2.2.1, hS.2.2.2.2.2.2.2.2.2.2.2.2.2.2.1, hS.2.2.2.2.2.2.2.2.2.2.2.2.2.2.2.1, hS.2.2.2.2.2.2.2.2.2.2.2.2.2.2.2.2.1, hS.2.2.2.2.2.2.2.2.2.2.2.2.2.2.2.2.2.1, hS.2.2.2.2.2.2.2.2.2.2.2.2.2.2.2.2.2.2.1, hS.2.2.2.2.2.2.2.2.2.2.2.2.2.2.2.2.2.2.2.1, hS.2.2.2.2.2.2.2.2.2.2.2.2.2.2.2.2.2.2.2.2.1, hS.2.2.2.2.2.2.2.2.2.2.2.2.2.2.2.2.2.2.2.2.2.1, hS.2.2.2.2.2.2.2.2.2.2.2.2.2.2.2.2.2.2.2.2.2.2.1, hS.2.2.2.2.2.2.2.2.2.2.2.2.2.2.2.2.2.2.2.2.2.2.2.1, (by go_grown)⟩) | (exact ⟨(by first | (with_reducible assumption) | (simp [go_sem]; done) | ((simp only [go_sem]); (with_reducible assumption)) | ((refine keep_cell ?_ (by with_reducible assumption)); go_grown; done) | (simp [go_sem, *]; done)), (by first | (with_reducible assumption) | (simp [go_sem]; done) | ((simp only [go_sem]); (with_reducible assumption)) | ((refine keep_cell ?_ (by with_reducible assumption)); go_grown; done) | (simp [go_sem, *]; done)), (by first | (with_reducible assumption) | (simp [go_sem]; done) | ((simp only [go_sem]); (with_reducible assumption)) | ((refine keep_cell ?_ (by with_reducible assumption)); go_grown; done) | (simp [go_sem, *]; done)), (by first | (with_reducible assumption) | (simp [go_sem]; done) | ((simp only [go_sem]); (with_reducible assumption)) | ((refine keep_cell ?_ (by with_reducible assumption)); go_grown; done) | (simp [go_sem, *]; done)), (by first | (with_reducible assumption) | (simp [go_sem]; done) | ((simp only [go_sem]); (with_reducible assumption)) | ((refine keep_cell ?_ (by with_reducible assumption)); go_grown; done) | (simp [go_sem, *]; done)), (by first | (with_reducible assumption) | (simp [go_sem]; done) | ((simp only [go_sem]); (with_reducible assumption)) | ((refine keep_cell ?_ (by with_reducible assumption)); go_grown; done) | (simp [go_sem, *]; done)), (by first | (with_reducible assumption) | (simp [go_sem]; done) | ((simp only [go_sem]); (with_reducible assumption)) | ((refine keep_cell ?_ (by with_reducible assumption)); go_grown; done) | (simp [go_sem, *]; done)), (by first | (with_reducible assumption) | (simp [go_sem]; done) | ((simp only [go_sem]); (with_reducible assumption)) | ((refine keep_cell ?_ (by with_reducible assumption)); go_grown; done) | (simp [go_sem, *]; done)), (by first | (with_reducible assumption) | (simp [go_sem]; done) | ((simp only [go_sem]); (with_reducible assumption)) | ((refine keep_cell ?_ (by with_reducible assumption)); go_grown; done) | (simp [go_sem, *]; done)), (by first | (with_reducible assumption) | (simp [go_sem]; done) | ((simp only [go_sem]); (with_reducible assumption)) | ((refine keep_cell ?_ (by with_reducible assumption)); go_grown; done) | (simp [go_sem, *]; done)), (by first | (with_reducible assumption) | (simp [go_sem]; done) | ((simp only [go_sem]); (with_reducible assumption)) | ((refine keep_cell ?_ (by with_reducible assumption)); go_grown; done) | (simp [go_sem, *]; done)), (by first | (with_reducible assumption) | (simp [go_sem]; done) | ((simp only [go_sem]); (with_reducible assumption)) | ((refine keep_cell ?_ (by with_reducible assumption)); go_grown; done) | (simp [go_sem, *]; done)), (by first | (with_reducible assumption) | (simp [go_sem]; done) | ((simp only [go_sem]); (with_reducible assumption)) | ((refine keep_cell ?_ (by with_reducible assumption)); go_grown; done) | (simp [go_sem, *]; done)), (by first | (with_reducible assumption) | (simp [go_sem]; done) | ((simp only [go_sem]); (with_reducible assumption)) | ((refine keep_cell ?_ (by with_reducible assumption)); go_grown; done) | (simp [go_sem, *]; done)), (by first | (with_reducible assumption) | (simp [go_sem]; done) | ((simp only [go_sem]); (with_reducible assumption)) | ((refine keep_cell ?_ (by with_reducible assumption)); go_grown; done) | (simp [go_sem, *]; done)), (by first | (with_reducible assumption) | (simp [go_sem]; done) | ((simp only [go_sem]); (with_reducible assumption)) | ((refine keep_cell ?_ (by with_reducible assumption)); go_grown; done) | (simp [go_sem, *]; done)), (by first | (with_reducible assumption) | (simp [go_sem]; done) | ((simp only [go_sem]); (with_reducible assumption)) | ((refine keep_cell ?_ (by with_reducible assumption)); go_grown; done) | (simp [go_sem, *]; done)), (by first | (with_reducible assumption) | (simp [go_sem]; done) | ((simp only [go_sem]); (with_reducible assumption)) | ((refine keep_cell ?_ (by with_reducible assumption)); go_grown; done) | (simp [go_sem, *]; done)), (by first | (with_reducible assumption) | (simp [go_sem]; done) | ((simp only [go_sem]); (with_reducible assumption)) | ((refine keep_cell ?_ (by with_reducible assumption)); go_grown; done) | (simp [go_sem, *]; done)), (by first | (with_reducible assumption) | (simp [go_sem]; done) | ((simp only [go_sem]); (with_reducible assumption)) | ((refine keep_cell ?_ (by with_reducible assumption)); go_grown; done) | (simp [go_sem, *]; done)), (by first | (with_reducible assumption) | (simp [go_sem]; done) | ((simp only [go_sem]); (with_reducible assumption)) | ((refine keep_cell ?_ (by with_reducible assumption)); go_grown; done) | (simp [go_sem, *]; done)), (by first | (with_reducible assumption) | (simp [go_sem]; done) | ((simp only [go_sem]); (with_reducible assumption)) | ((refine keep_cell ?_ (by with_reducible assumption)); go_grown; done) | (simp [go_sem, *]; done)), (by first | (with_reducible assumption) | (simp [go_sem]; done) | ((simp only [go_sem]); (with_reducible assumption)) | ((refine keep_cell ?_ (by with_reducible assumption)); go_grown; done) | (simp [go_sem, *]; done)), (by first | (with_reducible assumption) | (simp [go_sem]; done) | ((simp only [go_sem]); (with_reducible assumption)) | ((refine keep_cell ?_ (by with_reducible assumption)); go_grown; done) | (simp [go_sem, *]; done)), (by go_grown)⟩)) ?_
      repeat (first
        | ((refine wpDet_skip (by rfl) ?_); simp only [Act.put, zp1, zp2, zp3])
        | ((refine wpDet_val (v := ?_) (by rfl) (fun w hS => ?_) ?_); rotate_left; (focus ((try dsimp only at hS); go_simp; (try (with_reducible rfl)); done)); simp only [Act.put, zp1, zp2, zp3]))
      refine wpDet_nil ?_
      intro w1 hS
      have hT : w1.cell? ⟨w.heap.size, 0, none⟩ = some (.int .i64 m) ∧ w1.cell? ⟨w.heap.size, 1, none⟩ = some (.slice (some a1) l.length c1) ∧ w1.cell? ⟨w.heap.size + 1, 0, none⟩ = some (.int .i64 m) ∧ w1.cell? ⟨w.heap.size + 1, 1, none⟩ = some (.slice (some a2) l.length c2) ∧ w1.cell? (a1.add (i * 10)) = some (.int .i64 a) ∧ w1.cell? ⟨(a1.add (i * 10)).block, (a1.add (i * 10)).off + 1, none⟩ = some (.bool eo) ∧ w1.cell? ⟨(a1.add (i * 10)).block, (a1.add (i * 10)).off + 2, none⟩ = some (.int .i64 ea) ∧ w1.cell? ⟨(a1.add (i * 10)).block, (a1.add (i * 10)).off + 3, none⟩ = some (.int .i64 eb) ∧ w1.cell? ⟨(a1.add (i * 10)).block, (a1.add (i * 10)).off + 4, none⟩ = some (.int .i64 et) ∧ w1.cell? ⟨(a1.add (i * 10)).block, (a1.add (i * 10)).off + 5, none⟩ = some (.bool oo) ∧ w1.cell? ⟨(a1.add (i * 10)).block, (a1.add (i * 10)).off + 6, none⟩ = some (.int .i64 oa) ∧ w1.cell? ⟨(a1.add (i * 10)).block, (a1.add (i * 10)).off + 7, none⟩ = some (.int .i64 ob) ∧ w1.cell? ⟨(a1.add (i * 10)).block, (a1.add (i * 10)).off + 8, none⟩ = some (.int .i64 ot) ∧ w1.cell? ⟨(a1.add (i * 10)).block, (a1.add (i * 10)).off + 9, none⟩ = some (.int .i64 f) ∧ w1.cell? (a2.add (i * 10)) = some (.int .i64 a) ∧ w1.cell? ⟨(a2.add (i * 10)).block, (a2.add (i * 10)).off + 1, none⟩ = some (.bool eo) ∧ w1.cell? ⟨(a2.add (i * 10)).block, (a2.add (i * 10)).off + 2, none⟩ = some (.int .i64 ea) ∧ w1.cell? ⟨(a2.add (i * 10)).block, (a2.add (i * 10)).off + 3, none⟩ = some (.int .i64 eb) ∧ w1.cell? ⟨(a2.add (i * 10)).block, (a2.add (i * 10)).off + 4, none⟩ = some (.int .i64 et) ∧ w1.cell? ⟨(a2.add (i * 10)).block, (a2.add (i * 10)).off + 5, none⟩ = some (.bool oo) ∧ w1.cell? ⟨(a2.add (i * 10)).block, (a2.add (i * 10)).off + 6, none⟩ = some (.int .i64 oa) ∧ w1.cell? ⟨(a2.add (i * 10)).block, (a2.add (i * 10)).off + 7, none⟩ = some (.int .i64 ob) ∧ w1.cell? ⟨(a2.add (i * 10)).block, (a2.add (i * 10)).off + 8, none⟩ = some (.int .i64 ot) ∧ w1.cell? ⟨(a2.add (i * 10)).block, (a2.add (i * 10)).off + 9, none⟩ = some (.int .i64 f) ∧ Below w.heap.size w w1 := hS
      clear hS
      have hS := hT
      obtain ⟨c0, c1, c2, c3, c4, c5, c6, c7, c8, c9, c10, c11, c12, c13, c14, c15, c16, c17, c18, c19, c20, c21, c22, c23, hB⟩ := hT
      have hzw : w.heap.size ≤ w1.heap.size := hB.size
      have hz1 : w.heap.size < w1.heap.size := World.block_lt_of_cell? w1 _ (hS.1)
      have hz2 : w.heap.size + 1 < w1.heap.size := World.block_lt_of_cell? w1 _ (hS.2.2.1)
      go_wp2
      go_roundw
      case rel => exact ⟨i + 1, by omega, by go_num, by first | (with_reducible assumption) | (exact hS) | (exact ⟨hS.1, hS.2.1, hS.2.2.1, hS.2.2.2.1, (by go_grown)⟩) | (exact ⟨(by first | (with_reducible assumption) | (simp [go_sem]; done) | ((simp only [go_sem]); (with_reducible assumption)) | ((refine keep_cell ?_ (by with_reducible assumption)); go_grown; done) | (simp [go_sem, *]; done)), (by first | (with_reducible assumption) | (simp [go_sem]; done) | ((simp only [go_sem]); (with_reducible assumption)) | ((refine keep_cell ?_ (by with_reducible assumption)); go_grown; done) | (simp [go_sem, *]; done)), (by first | (with_reducible assumption) | (simp [go_sem]; done) | ((simp only [go_sem]); (with_reducible assumption)) | ((refine keep_cell ?_ (by with_reducible assumption)); go_grown; done) | (simp [go_sem, *]; done)), (by first | (with_reducible assumption) | (simp [go_sem]; done) | ((simp only [go_sem]); (with_reducible assumption)) | ((refine keep_cell ?_ (by with_reducible assumption)); go_grown; done) | (simp [go_sem, *]; done)), (by go_grown)⟩)⟩
      case measure => simp [intOf]; omega
    obtain rfl : i = l.length := by omega
    go_wp2
    go_returns
    exact ⟨ret_eq rfl, by go_grown⟩
end Go.Proofs.Ytbeojfhakmbacaa
namespace Go.Proofs.Ytbeojfhakmbacaa
open Go.RowKit
theorem unpack_c (d : Int) (w : World) : Calls Try.prog 93 #[.int .i64 d] w (Gives w (.tuple #[.agg #[.bool (upO d), .int .i64 (upA d), .int .i64 (upB d)], .bool (upK d)])) := by
  rcases h1 : wi d 0 32767 with _ | _
  focus
    go_enter Try.func93, Try.ntmps93
    go_wp2_with (first | (go_at_call 63; refine (within_c _ _ _ _).mono ?_; rintro e w1 ⟨rfl, rfl⟩))
    refine bodyPost_ret (v := .tuple #[.agg #[.bool false, .int .i64 0, .int .i64 0], .bool false]) (by simp [results, Try.results93, go_sem, *]) rfl ⟨ret_eq (by simp [upO, upA, upB, upK, h1]), by go_grown⟩
  obtain ⟨hd0, hd1⟩ := wi_iff.1 h1
  have e1 : d.tmod 16384 = d % 16384 := Int.tmod_eq_emod_of_nonneg hd0
  rcases h2 : vR (decide (16384 ≤ d)) (d % 16384 / 128) (d % 128) with _ | _
  focus
    go_enter Try.func93, Try.ntmps93
    go_wp2_with (first | (go_at_call 63; refine (within_c _ _ _ _).mono ?_; rintro e w1 ⟨rfl, rfl⟩) | (go_at_call 101; refine (validRep_c _ _ _ _).mono ?_; rintro e w1 ⟨rfl, hb⟩; have hT : w1.cell? ⟨w.heap.size, 0, none⟩ = some (.bool false) ∧ w1.cell? ⟨w.heap.size, 1, none⟩ = some (.int .i64 0) ∧ w1.cell? ⟨w.heap.size, 2, none⟩ = some (.int .i64 0) ∧ w1.cell? ⟨w.heap.size + 1, 0, none⟩ = some (.bool (decide (16384 ≤ d))) ∧ w1.cell? ⟨w.heap.size + 1, 1, none⟩ = some (.int .i64 (d % 16384 / 128)) ∧ w1.cell? ⟨w.heap.size + 1, 2, none⟩ = some (.int .i64 (d % 128)) ∧ (w.heap.size < w1.heap.size ∧ ∀ i, w1.frozen? ⟨w.heap.size, i, none⟩ = false) ∧ Below w.heap.size w w1 := keep6_1 (by first | assumption | (exact hS) | (refine ⟨?_, ?_, ?_, ?_, ?_, ?_, ?_, ?_⟩ <;> (first | (simp [go_sem]; done) | (simp [go_sem, *]; done) | (go_grown; done)))) hb; (try clear hS); have hS := hT; clear hT; have hB := hS.2.2.2.2.2.2.2; have hzw := hB.size; have hz1 : w.heap.size < w1.heap.size := World.block_lt_of_cell? w1 _ (hS.1); have hz2 : w.heap.size + 1 < w1.heap.size := World.block_lt_of_cell? w1 _ (hS.2.2.2.1); clear hb))
    refine bodyPost_ret (v := .tuple #[.agg #[.bool false, .int .i64 0, .int .i64 0], .bool false]) (by simp [results, Try.results93, go_sem, *]) rfl ⟨ret_eq (by simp [upO, upA, upB, upK, h1, h2]), by go_grown⟩
  go_enter Try.func93, Try.ntmps93
  go_wp2_with (first | (go_at_call 63; refine (within_c _ _ _ _).mono ?_; rintro e w1 ⟨rfl, rfl⟩) | (go_at_call 101; refine (validRep_c _ _ _ _).mono ?_; rintro e w1 ⟨rfl, hb⟩; have hT : w1.cell? ⟨w.heap.size, 0, none⟩ = some (.bool false) ∧ w1.cell? ⟨w.heap.size, 1, none⟩ = some (.int .i64 0) ∧ w1.cell? ⟨w.heap.size, 2, none⟩ = some (.int .i64 0) ∧ w1.cell? ⟨w.heap.size + 1, 0, none⟩ = some (.bool (decide (16384 ≤ d))) ∧ w1.cell? ⟨w.heap.size + 1, 1, none⟩ = some (.int .i64 (d % 16384 / 128)) ∧ w1.cell? ⟨w.heap.size + 1, 2, none⟩ = some (.int .i64 (d % 128)) ∧ (w.heap.size < w1.heap.size ∧ ∀ i, w1.frozen? ⟨w.heap.size, i, none⟩ = false) ∧ Below w.heap.size w w1 := keep6_1 (by first | assumption | (exact hS) | (refine ⟨?_, ?_, ?_, ?_, ?_, ?_, ?_, ?_⟩ <;> (first | (simp [go_sem]; done) | (simp [go_sem, *]; done) | (go_grown; done)))) hb; (try clear hS); have hS := hT; clear hT; have hB := hS.2.2.2.2.2.2.2; have hzw := hB.size; have hz1 : w.heap.size < w1.heap.size := World.block_lt_of_cell? w1 _ (hS.1); have hz2 : w.heap.size + 1 < w1.heap.size := World.block_lt_of_cell? w1 _ (hS.2.2.2.1); clear hb))
  refine bodyPost_ret (v := .tuple #[.agg #[.bool (decide (16384 ≤ d)), .int .i64 (d % 16384 / 128), .int .i64 (d % 128)], .bool true]) (by simp [results, Try.results93, go_sem, *]) rfl ⟨ret_eq (by simp [upO, upA, upB, upK, h1, h2]), by go_grown⟩
theorem l7Unpack_c (d : Int) (w : World) : Calls Try.prog 100 #[.int .i64 d] w (Gives w (.tuple #[.agg #[.bool (upO d), .int .i64 (upA d), .int .i64 (upB d)], .bool (upK d)])) := by
  rcases h1 : wi d 0 32767 with _ | _
  focus
    go_enter Try.func100, Try.ntmps100
    go_wp2_with (first | (go_at_call 98; refine (l1In_c _ _ _ _).mono ?_; rintro e w1 ⟨rfl, rfl⟩))
    refine bodyPost_ret (v := .tuple #[.agg #[.bool false, .int .i64 0, .int .i64 0], .bool false]) (by simp [results, Try.results100, go_sem, *]) rfl ⟨ret_eq (by simp [upO, upA, upB, upK, h1]), by go_grown⟩
  obtain ⟨hd0, hd1⟩ := wi_iff.1 h1
  have e1 : d.tmod 16384 = d % 16384 := Int.tmod_eq_emod_of_nonneg hd0
  rcases h2 : vR (decide (16384 ≤ d)) (d % 16384 / 128) (d % 128) with _ | _
  focus
    go_enter Try.func100, Try.ntmps100
    go_wp2_with (first | (go_at_call 98; refine (l1In_c _ _ _ _).mono ?_; rintro e w1 ⟨rfl, rfl⟩) | (go_at_call 120; refine (l7Report_c _ _ _ _).mono ?_; rintro e w1 ⟨rfl, hb⟩; have hT : w1.cell? ⟨w.heap.size, 0, none⟩ = some (.bool false) ∧ w1.cell? ⟨w.heap.size, 1, none⟩ = some (.int .i64 0) ∧ w1.cell? ⟨w.heap.size, 2, none⟩ = some (.int .i64 0) ∧ w1.cell? ⟨w.heap.size + 1, 0, none⟩ = some (.bool (decide (16384 ≤ d))) ∧ w1.cell? ⟨w.heap.size + 1, 1, none⟩ = some (.int .i64 (d % 16384 / 128)) ∧ w1.cell? ⟨w.heap.size + 1, 2, none⟩ = some (.int .i64 (d % 128)) ∧ (w.heap.size < w1.heap.size ∧ ∀ i, w1.frozen? ⟨w.heap.size, i, none⟩ = false) ∧ Below w.heap.size w w1 := keep6_1 (by first | assumption | (exact hS) | (refine ⟨?_, ?_, ?_, ?_, ?_, ?_, ?_, ?_⟩ <;> (first | (simp [go_sem]; done) | (simp [go_sem, *]; done) | (go_grown; done)))) hb; (try clear hS); have hS := hT; clear hT; have hB := hS.2.2.2.2.2.2.2; have hzw := hB.size; have hz1 : w.heap.size < w1.heap.size := World.block_lt_of_cell? w1 _ (hS.1); have hz2 : w.heap.size + 1 < w1.heap.size := World.block_lt_of_cell? w1 _ (hS.2.2.2.1); clear hb))
    refine bodyPost_ret (v := .tuple #[.agg #[.bool false, .int .i64 0, .int .i64 0], .bool false]) (by simp [results, Try.results100, go_sem, *]) rfl ⟨ret_eq (by simp [upO, upA, upB, upK, h1, h2]), by go_grown⟩
  go_enter Try.func100, Try.ntmps100
  go_wp2_with (first | (go_at_call 98; refine (l1In_c _ _ _ _).mono ?_; rintro e w1 ⟨rfl, rfl⟩) | (go_at_call 120; refine (l7Report_c _ _ _ _).mono ?_; rintro e w1 ⟨rfl, hb⟩; have hT : w1.cell? ⟨w.heap.size, 0, none⟩ = some (.bool false) ∧ w1.cell? ⟨w.heap.size, 1, none⟩ = some (.int .i64 0) ∧ w1.cell? ⟨w.heap.size, 2, none⟩ = some (.int .i64 0) ∧ w1.cell? ⟨w.heap.size + 1, 0, none⟩ = some (.bool (decide (16384 ≤ d))) ∧ w1.cell? ⟨w.heap.size + 1, 1, none⟩ = some (.int .i64 (d % 16384 / 128)) ∧ w1.cell? ⟨w.heap.size + 1, 2, none⟩ = some (.int .i64 (d % 128)) ∧ (w.heap.size < w1.heap.size ∧ ∀ i, w1.frozen? ⟨w.heap.size, i, none⟩ = false) ∧ Below w.heap.size w w1 := keep6_1 (by first | assumption | (exact hS) | (refine ⟨?_, ?_, ?_, ?_, ?_, ?_, ?_, ?_⟩ <;> (first | (simp [go_sem]; done) | (simp [go_sem, *]; done) | (go_grown; done)))) hb; (try clear hS); have hS := hT; clear hT; have hB := hS.2.2.2.2.2.2.2; have hzw := hB.size; have hz1 : w.heap.size < w1.heap.size := World.block_lt_of_cell? w1 _ (hS.1); have hz2 : w.heap.size + 1 < w1.heap.size := World.block_lt_of_cell? w1 _ (hS.2.2.2.1); clear hb))
  refine bodyPost_ret (v := .tuple #[.agg #[.bool (decide (16384 ≤ d)), .int .i64 (d % 16384 / 128), .int .i64 (d % 128)], .bool true]) (by simp [results, Try.results100, go_sem, *]) rfl ⟨ret_eq (by simp [upO, upA, upB, upK, h1, h2]), by go_grown⟩
end Go.Proofs.Ytbeojfhakmbacaa
namespace Go.Proofs.Ytbeojfhakmbacaa
open Go.RowKit
theorem infoHd : (Try.prog.info? 42).map (fun i => (i.zero, i.size, i.bytes)) = some (some (hdV nHd), 10, 80) := by kernel_rfl
end Go.Proofs.Ytbeojfhakmbacaa
namespace Go.Proofs.Ytbeojfhakmbacaa
open Go.RowKit
theorem own_set {w : World} {B e size n : Nat} {v : Value} {xs : List Value} (h : w.ownsRow B e size v n xs) {p : Addr} (hp : p.block < B) (u : Value) : (w.setCell p u).ownsRow B e size v n xs := by
  obtain ⟨h1, h2⟩ := h
  refine ⟨h1, ?_⟩
  rcases h2 with h2 | ⟨g, cap, cur, hv, hb, hh, h3⟩
  · exact Or.inl h2
  · exact Or.inr ⟨g, cap, cur, hv, hb, (Below.heap_setCell w p u g (by omega)).trans hh, h3⟩
end Go.Proofs.Ytbeojfhakmbacaa
namespace Go.Proofs.Ytbeojfhakmbacaa
open Go Go.RowKit
theorem wpList_append_any {P : Program} {w : World} {ops : Array Oper} {rest : List Oper} {o : Oper} {a : Act} {Q : Exit → Act → World → Prop} (hgd : o.guard = none) (s x : Operand) (t : TypeId)
    (ho : o.op = .call { callee := .builtin .append, args := #[s, x], argTypes := #[t, t] })
    (base : Nat) (e : TypeId) (i : TypeInfo) (z : Value) (size bytes : Nat) (ht : P.underlying t = some (.slice e)) (hi : P.info? e = some i) (hz : i.zero = some z)
    (hsize : i.size = size) (hby : i.bytes = bytes) (hzs : z.cells.size = size) (hsz : 0 < size)
    (v : Value) (n : Nat) (xs : List Value) (hs : a.eval s = v) (hown : w.ownsRow base e size v n xs)
    (B : Nat) (A : Option Addr) (m c : Nat) (news : List Value) (hx : a.eval x = .slice A m c) (hr : Reads w B size A m news) (hm0 : A = none → m = 0) (h1 : ∀ u ∈ news, u.oneCell' = true)
    (h63 : n + m ≤ maxLen) (hbytes : (n + m) * bytes ≤ 140737488355328) (hbase : base ≤ w.heap.size)
    (h : ∀ A' c' w', w'.ownsRow base e size (.slice A' (n + m) c') (n + m) (xs ++ news) → w.grownBy w' v.ownBlock → wpList P ops Q rest (a.put o.dst (.slice A' (n + m) c')) w') :
    wpList P ops Q (o :: rest) a w := by
  obtain ⟨v', w', hrun, h2, h3⟩ := run_append_any (P := P) w base t o.type e i z size bytes ht hi hz hsize hby hzs hsz v n xs hown B A m c news hr hm0 h1 h63 hbytes hbase
  have hv : ∃ A' c', v' = .slice A' (n + m) c' := by
    rcases h2.2 with ⟨rfl, h0⟩ | ⟨g, cap, _, rfl, _⟩
    · exact ⟨none, 0, by rw [h0]⟩
    · exact ⟨_, _, rfl⟩
  obtain ⟨A', c', rfl⟩ := hv
  refine wpList_plain hgd fun _ hK => ?_
  unfold Oper.wp
  have hr2 : (execOp a.eval o).run P w = .ok (.value (.slice A' (n + m) c')) w' := by
    unfold execOp
    simp only [ho, resolve, invoke, builtin, Sem.run_bind, Sem.run_pure, Result.andThen_ok, List.map_toArray, List.map_cons, List.map_nil, hs, hx, hrun]
  rw [hr2]
  exact hK _ _ (h _ _ _ h2 h3)
end Go.Proofs.Ytbeojfhakmbacaa
namespace Go.Proofs.Ytbeojfhakmbacaa
open Go.RowKit
theorem own_fre {w w' : World} {base : Nat} {e : TypeId} {size : Nat} {v : Value} {n : Nat} {xs : List Value} (h : w.ownsRow base e size v n xs) (hg : w.grownBy w' v.ownBlock) {b : Nat} (hf : b < w.heap.size ∧ ∀ i, w.frozen? ⟨b, i, none⟩ = false) (hb : b < base) : b < w'.heap.size ∧ ∀ i, w'.frozen? ⟨b, i, none⟩ = false :=
  ⟨Nat.lt_of_lt_of_le hf.1 hg.size, fun i => (hg.frozen_far ⟨b, i, none⟩ hf.1 (fun e => by have h9 := (h.lt _ e.symm).1; have h8 : base ≤ b := h9; omega)).trans (hf.2 i)⟩
theorem news_ten {w : World} {a : Addr} {x0 x1 x2 x3 x4 x5 x6 x7 x8 x9 : Value} (h0 : w.cell? a = some x0) (h1 : w.cell? ⟨a.block, a.off + 1, none⟩ = some x1) (h2 : w.cell? ⟨a.block, a.off + 2, none⟩ = some x2) (h3 : w.cell? ⟨a.block, a.off + 3, none⟩ = some x3) (h4 : w.cell? ⟨a.block, a.off + 4, none⟩ = some x4) (h5 : w.cell? ⟨a.block, a.off + 5, none⟩ = some x5) (h6 : w.cell? ⟨a.block, a.off + 6, none⟩ = some x6) (h7 : w.cell? ⟨a.block, a.off + 7, none⟩ = some x7) (h8 : w.cell? ⟨a.block, a.off + 8, none⟩ = some x8) (h9 : w.cell? ⟨a.block, a.off + 9, none⟩ = some x9) : ∀ j u, [x0, x1, x2, x3, x4, x5, x6, x7, x8, x9][j]? = some u → w.cell? (a.add j) = some u := by
  intro j u hj
  match j, hj with
  | 0, hj => simp at hj; subst hj; simpa [Addr.add] using h0
  | 1, hj => simp at hj; subst hj; simpa [Addr.add] using h1
  | 2, hj => simp at hj; subst hj; simpa [Addr.add] using h2
  | 3, hj => simp at hj; subst hj; simpa [Addr.add] using h3
  | 4, hj => simp at hj; subst hj; simpa [Addr.add] using h4
  | 5, hj => simp at hj; subst hj; simpa [Addr.add] using h5
  | 6, hj => simp at hj; subst hj; simpa [Addr.add] using h6
  | 7, hj => simp at hj; subst hj; simpa [Addr.add] using h7
  | 8, hj => simp at hj; subst hj; simpa [Addr.add] using h8
  | 9, hj => simp at hj; subst hj; simpa [Addr.add] using h9
  | j + 10, hj => simp at hj
theorem one_ten {x0 x1 x2 x3 x4 x5 x6 x7 x8 x9 : Value} (h0 : x0.oneCell' = true) (h1 : x1.oneCell' = true) (h2 : x2.oneCell' = true) (h3 : x3.oneCell' = true) (h4 : x4.oneCell' = true) (h5 : x5.oneCell' = true) (h6 : x6.oneCell' = true) (h7 : x7.oneCell' = true) (h8 : x8.oneCell' = true) (h9 : x9.oneCell' = true) : ∀ u ∈ [x0, x1, x2, x3, x4, x5, x6, x7, x8, x9], u.oneCell' = true := by
  intro u hu
  simp only [List.mem_cons, List.not_mem_nil, or_false] at hu
  rcases hu with rfl | rfl | rfl | rfl | rfl | rfl | rfl | rfl | rfl | rfl <;> assumption
end Go.Proofs.Ytbeojfhakmbacaa
namespace Go.Proofs.Ytbeojfhakmbacaa
open Go.RowKit
set_option maxHeartbeats 4000000 in
theorem heardAt_c (m : Int) (A : Option Addr) (c : Nat) (l : List Hd) (x : Int) (w : World) (h1 : Hid (Reads w w.heap.size 10 A l.length (hds l))) (b1 : l.length ≤ 4000000)  : Calls Try.prog 68 #[.agg #[.int .i64 m, .slice A l.length c], .int .i64 x] w (Gives w (.int .i64 (fndV l x))) := by
  go_enter Try.func68, Try.ntmps68
  go_wp2
  go_loopw [10] (fun iv wr => ∃ i : Nat, i ≤ l.length ∧ iv = .int .i64 i ∧ Hid (noL l x i) ∧ (wr.cell? ⟨w.heap.size, 0, none⟩ = some (.int .i64 m) ∧ wr.cell? ⟨w.heap.size, 1, none⟩ = some (.slice A l.length c) ∧ Below w.heap.size w wr)) (fun iv _ => l.length - (intOf iv).toNat)
  case atStart => exact ⟨0, by omega, rfl, hide noL_zero, by first | (with_reducible assumption) | (exact hS) | (exact ⟨hS.1, hS.2.1, (by go_grown)⟩) | (exact ⟨(by first | (with_reducible assumption) | (simp [go_sem]; done) | ((simp only [go_sem]); (with_reducible assumption)) | ((refine keep_cell ?_ (by with_reducible assumption)); go_grown; done) | (simp [go_sem, *]; done)), (by first | (with_reducible assumption) | (simp [go_sem]; done) | ((simp only [go_sem]); (with_reducible assumption)) | ((refine keep_cell ?_ (by with_reducible assumption)); go_grown; done) | (simp [go_sem, *]; done)), (by go_grown)⟩)⟩
  case round =>
    obtain ⟨i, hi, rfl, HN, hS⟩ := hrel
    have hS2 := hS
    obtain ⟨r0, r1, hB⟩ := hS2
    have hzw : w.heap.size ≤ wr.heap.size := hB.size
    have hz1 : w.heap.size < wr.heap.size := World.block_lt_of_cell? wr _ (hS.1)
    by_cases hlt : i < l.length
    rotate_left
    · obtain rfl : i = l.length := by omega
      have HF := hide (fnd_none HN.out)
      go_wp2
      go_returns
      exact ⟨ret_eq (by rw [HF.out]; simp), by go_grown⟩
    obtain ⟨⟨a, ⟨eo, ea, eb⟩, et, ⟨oo, oa, ob⟩, ot, f⟩, he⟩ : ∃ q, hx l i = q := ⟨_, rfl⟩
    obtain ⟨a1, rfl, ekb, e0, e1, e2, e3, e4, e5, e6, e7, e8, e9⟩ := (h1.out.below hB).hd (k := i) (by omega) he
    have HE := hide he
    clear he
    by_cases hc : a = x
    · have HF := hide (fnd_some hlt HN.out (by rw [HE.out]; exact hc))
      have hcb : (a == x) = true := beq_iff_eq.2 hc
      clear hc
      go_wp2
      go_returns
      exact ⟨ret_eq (by rw [HF.out]; simp), by go_grown⟩
    have HN2 := hide (noL_succ HN.out (by rw [HE.out]; exact hc))
    have hcb : (a == x) = false := beq_eq_false_iff_ne.2 hc
    clear hc
    go_wp2
    go_roundw
    case rel => exact ⟨i + 1, by omega, by go_num, HN2, by first | (with_reducible assumption) | (exact hS) | (exact ⟨hS.1, hS.2.1, (by go_grown)⟩) | (exact ⟨(by first | (with_reducible assumption) | (simp [go_sem]; done) | ((simp only [go_sem]); (with_reducible assumption)) | ((refine keep_cell ?_ (by with_reducible assumption)); go_grown; done) | (simp [go_sem, *]; done)), (by first | (with_reducible assumption) | (simp [go_sem]; done) | ((simp only [go_sem]); (with_reducible assumption)) | ((refine keep_cell ?_ (by with_reducible assumption)); go_grown; done) | (simp [go_sem, *]; done)), (by go_grown)⟩)⟩
    case measure => simp [intOf]; omega
set_option maxHeartbeats 4000000 in
theorem l9Find_c (m : Int) (A : Option Addr) (c : Nat) (l : List Hd) (x : Int) (w : World) (h1 : Hid (Reads w w.heap.size 10 A l.length (hds l))) (b1 : l.length ≤ 4000000)  : Calls Try.prog 75 #[.agg #[.int .i64 m, .slice A l.length c], .int .i64 x] w (Gives w (.int .i64 (fndV l x))) := by
  go_enter Try.func75, Try.ntmps75
  go_wp2
  go_loopw [5] (fun iv wr => ∃ i : Nat, i ≤ l.length ∧ iv = .int .i64 i ∧ Hid (noL l x i) ∧ (wr.cell? ⟨w.heap.size, 0, none⟩ = some (.int .i64 m) ∧ wr.cell? ⟨w.heap.size, 1, none⟩ = some (.slice A l.length c) ∧ Below w.heap.size w wr)) (fun iv _ => l.length - (intOf iv).toNat)
  case atStart => exact ⟨0, by omega, rfl, hide noL_zero, by first | (with_reducible assumption) | (exact hS) | (exact ⟨hS.1, hS.2.1, (by go_grown)⟩) | (exact ⟨(by first | (with_reducible assumption) | (simp [go_sem]; done) | ((simp only [go_sem]); (with_reducible assumption)) | ((refine keep_cell ?_ (by with_reducible assumption)); go_grown; done) | (simp [go_sem, *]; done)), (by first | (with_reducible assumption) | (simp [go_sem]; done) | ((simp only [go_sem]); (with_reducible assumption)) | ((refine keep_cell ?_ (by with_reducible assumption)); go_grown; done) | (simp [go_sem, *]; done)), (by go_grown)⟩)⟩
  case round =>
    obtain ⟨i, hi, rfl, HN, hS⟩ := hrel
    have hS2 := hS
    obtain ⟨r0, r1, hB⟩ := hS2
    have hzw : w.heap.size ≤ wr.heap.size := hB.size
    have hz1 : w.heap.size < wr.heap.size := World.block_lt_of_cell? wr _ (hS.1)
    by_cases hlt : i < l.length
    rotate_left
    · obtain rfl : i = l.length := by omega
      have HF := hide (fnd_none HN.out)
      go_wp2
      go_returns
      exact ⟨ret_eq (by rw [HF.out]; simp), by go_grown⟩
    obtain ⟨⟨a, ⟨eo, ea, eb⟩, et, ⟨oo, oa, ob⟩, ot, f⟩, he⟩ : ∃ q, hx l i = q := ⟨_, rfl⟩
    obtain ⟨a1, rfl, ekb, e0, e1, e2, e3, e4, e5, e6, e7, e8, e9⟩ := (h1.out.below hB).hd (k := i) (by omega) he
    have HE := hide he
    clear he
    by_cases hc : a = x
    · have HF := hide (fnd_some hlt HN.out (by rw [HE.out]; exact hc))
      have hcb : (a == x) = true := beq_iff_eq.2 hc
      clear hc
      go_wp2
      go_returns
      exact ⟨ret_eq (by rw [HF.out]; simp), by go_grown⟩
    have HN2 := hide (noL_succ HN.out (by rw [HE.out]; exact hc))
    have hcb : (a == x) = false := beq_eq_false_iff_ne.2 hc
    clear hc
    go_wp2
    go_roundw
    case rel => exact ⟨i + 1, by omega, by go_num, HN2, by first | (with_reducible assumption) | (exact hS) | (exact ⟨hS.1, hS.2.1, (by go_grown)⟩) | (exact ⟨(by first | (with_reducible assumption) | (simp [go_sem]; done) | ((simp only [go_sem]); (with_reducible assumption)) | ((refine keep_cell ?_ (by with_reducible assumption)); go_grown; done) | (simp [go_sem, *]; done)), (by first | (with_reducible assumption) | (simp [go_sem]; done) | ((simp only [go_sem]); (with_reducible assumption)) | ((refine keep_cell ?_ (by with_reducible assumption)); go_grown; done) | (simp [go_sem, *]; done)), (by go_grown)⟩)⟩
    case measure => simp [intOf]; omega
end Go.Proofs.Ytbeojfhakmbacaa
namespace Go.Proofs.Ytbeojfhakmbacaa
open Go.RowKit
theorem sc {w : World} {g i b j : Nat} {u : Value} (v : Value) (h : b ≠ g) (q : w.cell? ⟨b, j, none⟩ = some u) : (w.setCell ⟨g, i, none⟩ v).cell? ⟨b, j, none⟩ = some u := by
  rw [World.cell?_setCell_other _ _ _ _ (by intro e; injection e with e1; exact h e1.symm)]; exact q
theorem sf {w : World} {p : Addr} {b : Nat} (v : Value) (q : b < w.heap.size ∧ ∀ i, w.frozen? ⟨b, i, none⟩ = false) : b < (w.setCell p v).heap.size ∧ ∀ i, (w.setCell p v).frozen? ⟨b, i, none⟩ = false := ⟨by simpa using q.1, fun i => by simpa using q.2 i⟩
theorem hds_one (l : List Hd) : ∀ u ∈ hds l, u.oneCell' = true := by
  intro u hu
  unfold hds at hu
  obtain ⟨h, _, hm⟩ := List.mem_flatMap.1 hu
  simp only [hdc, List.mem_cons, List.not_mem_nil, or_false] at hm
  rcases hm with rfl | rfl | rfl | rfl | rfl | rfl | rfl | rfl | rfl | rfl <;> rfl
theorem reads_nn {w : World} {B sz n : Nat} {A : Option Addr} {xs : List Value} (h : Reads w B sz A n xs) (hA : A = none) : n = 0 := Decidable.byContradiction fun hn => by
  obtain ⟨ad, e, _⟩ := h.2 (by omega)
  rw [hA] at e
  cases e
theorem row_cell {w : World} {base g n c k : Nat} {L : List Hd} (h : w.ownsRow base 42 10 (.slice (some ⟨g, 0, none⟩) n c) n (hds L)) (hn : n = L.length) (hk : k < L.length) {j : Nat} (hj : j < 10) {v : Value} (hv : (hdc (hx L k))[j]? = some v) : w.cell? ⟨g, k * 10 + j, none⟩ = some v := by
  rw [h.cellAt (k * 10 + j) (by omega), hds_at L k j hk hj]; exact hv
theorem hx_set {L : List Hd} {k : Nat} (h : k < L.length) (x : Hd) : hx (L.set k x) k = x := by
  unfold hx; rw [List.getD_eq_getElem?_getD, List.getElem?_set]; simp [h]
theorem ne_cell {w w' : World} {v : Value} (hg : w.grownBy w' v.ownBlock) {a : Addr} {u : Value} (hc : w.cell? a = some u) (ha : v.ownBlock ≠ some a.block) : w'.cell? a = some u := hg.cell hc fun e => ha e.symm
theorem ne_fre {w w' : World} {v : Value} (hg : w.grownBy w' v.ownBlock) {b : Nat} (hf : b < w.heap.size ∧ ∀ i, w.frozen? ⟨b, i, none⟩ = false) (hb : v.ownBlock ≠ some b) : b < w'.heap.size ∧ ∀ i, w'.frozen? ⟨b, i, none⟩ = false :=
  ⟨Nat.lt_of_lt_of_le hf.1 hg.size, fun i => (hg.frozen_far ⟨b, i, none⟩ hf.1 (fun e => hb e.symm)).trans (hf.2 i)⟩
theorem row_ten {w : World} {base g n c k : Nat} {L : List Hd} (h : w.ownsRow base 42 10 (.slice (some ⟨g, 0, none⟩) n c) n (hds L)) (hk : k < L.length) (a : Int) (eo : Bool) (ea eb et : Int) (oo : Bool) (oa ob ot f : Int) :
    ((((((((((w.setCell ⟨g, k * 10, none⟩ (.int .i64 a)).setCell ⟨g, k * 10 + 1, none⟩ (.bool eo)).setCell ⟨g, k * 10 + 2, none⟩ (.int .i64 ea)).setCell ⟨g, k * 10 + 3, none⟩ (.int .i64 eb)).setCell ⟨g, k * 10 + 4, none⟩ (.int .i64 et)).setCell ⟨g, k * 10 + 5, none⟩ (.bool oo)).setCell ⟨g, k * 10 + 6, none⟩ (.int .i64 oa)).setCell ⟨g, k * 10 + 7, none⟩ (.int .i64 ob)).setCell ⟨g, k * 10 + 8, none⟩ (.int .i64 ot)).setCell ⟨g, k * 10 + 9, none⟩ (.int .i64 f)).ownsRow base 42 10 (.slice (some ⟨g, 0, none⟩) n c) n (hds (L.set k (a, (eo, ea, eb), et, (oo, oa, ob), ot, f))) := by
  rw [← set_ten hk]
  exact (((((((((((h.stored _ _).1).stored _ _).1.stored _ _).1.stored _ _).1.stored _ _).1.stored _ _).1.stored _ _).1.stored _ _).1.stored _ _).1.stored _ _).1
def tenW (w : World) (g k : Nat) (h : Hd) : World :=
  (((((((((w.setCell ⟨g, k * 10, none⟩ (.int .i64 h.1)).setCell ⟨g, k * 10 + 1, none⟩ (.bool h.2.1.1)).setCell ⟨g, k * 10 + 2, none⟩ (.int .i64 h.2.1.2.1)).setCell ⟨g, k * 10 + 3, none⟩ (.int .i64 h.2.1.2.2)).setCell ⟨g, k * 10 + 4, none⟩ (.int .i64 h.2.2.1)).setCell ⟨g, k * 10 + 5, none⟩ (.bool h.2.2.2.1.1)).setCell ⟨g, k * 10 + 6, none⟩ (.int .i64 h.2.2.2.1.2.1)).setCell ⟨g, k * 10 + 7, none⟩ (.int .i64 h.2.2.2.1.2.2)).setCell ⟨g, k * 10 + 8, none⟩ (.int .i64 h.2.2.2.2.1)).setCell ⟨g, k * 10 + 9, none⟩ (.int .i64 h.2.2.2.2.2)
theorem ten_row {w : World} {base g n c k : Nat} {L : List Hd} (h : w.ownsRow base 42 10 (.slice (some ⟨g, 0, none⟩) n c) n (hds L)) (hk : k < L.length) (x : Hd) : (tenW w g k x).ownsRow base 42 10 (.slice (some ⟨g, 0, none⟩) n c) n (hds (L.set k x)) :=
  row_ten h hk x.1 x.2.1.1 x.2.1.2.1 x.2.1.2.2 x.2.2.1 x.2.2.2.1.1 x.2.2.2.1.2.1 x.2.2.2.1.2.2 x.2.2.2.2.1 x.2.2.2.2.2
theorem ten_cell {w : World} {g b j : Nat} {u : Value} (k : Nat) (x : Hd) (h : b ≠ g) (q : w.cell? ⟨b, j, none⟩ = some u) : (tenW w g k x).cell? ⟨b, j, none⟩ = some u :=
  sc _ h (sc _ h (sc _ h (sc _ h (sc _ h (sc _ h (sc _ h (sc _ h (sc _ h (sc _ h q)))))))))
theorem ten_fre {w : World} {b : Nat} (g k : Nat) (x : Hd) (q : b < w.heap.size ∧ ∀ i, w.frozen? ⟨b, i, none⟩ = false) : b < (tenW w g k x).heap.size ∧ ∀ i, (tenW w g k x).frozen? ⟨b, i, none⟩ = false :=
  sf _ (sf _ (sf _ (sf _ (sf _ (sf _ (sf _ (sf _ (sf _ (sf _ q)))))))))
theorem ten_below {w a : World} {B g : Nat} (k : Nat) (x : Hd) (h : Below B a w) (hg : B ≤ g) : Below B a (tenW w g k x) :=
  (((((((((h.setCell (p := ⟨g, _, none⟩) hg _).setCell (p := ⟨g, _, none⟩) hg _).setCell (p := ⟨g, _, none⟩) hg _).setCell (p := ⟨g, _, none⟩) hg _).setCell (p := ⟨g, _, none⟩) hg _).setCell (p := ⟨g, _, none⟩) hg _).setCell (p := ⟨g, _, none⟩) hg _).setCell (p := ⟨g, _, none⟩) hg _).setCell (p := ⟨g, _, none⟩) hg _).setCell (p := ⟨g, _, none⟩) hg _
theorem hx_set_ne {L : List Hd} {j i : Nat} (h : j ≠ i) (x : Hd) : hx (L.set j x) i = hx L i := by
  unfold hx; rw [List.getD_eq_getElem?_getD, List.getD_eq_getElem?_getD, List.getElem?_set_ne h]
theorem rcB_f {m : Int} {l : List Hd} {A : Int} (h : okR m l = true) : 0 ≤ (hx (rcB A l) (rcI A l)).2.2.2.2.2 ∧ (hx (rcB A l) (rcI A l)).2.2.2.2.2 ≤ 9999 := by
  unfold rcB
  by_cases hk : rcH A l
  · rw [if_pos hk]
    obtain ⟨⟨a, ⟨eo, ea, eb⟩, et, ⟨oo, oa, ob⟩, ot, f⟩, he⟩ : ∃ q, hx l (rcI A l) = q := ⟨_, rfl⟩
    obtain ⟨_, ⟨u0, u1⟩, _⟩ := okH_bd h hk.1 he
    rw [he]
    exact ⟨by show 0 ≤ f; omega, u1⟩
  · rw [if_neg hk, bub_at (rcI_le A l)]
    exact ⟨by show (0 : Int) ≤ 0; omega, by show (0 : Int) ≤ 9999; omega⟩
theorem ph3 {p : Nat} {W X0 X1 X2 : World} (h : W = (if p = 0 then X0 else if p = 1 then X1 else X2)) : W = X0 ∨ W = X1 ∨ W = X2 := by
  split at h
  · exact .inl h
  · split at h
    · exact .inr (.inl h)
    · exact .inr (.inr h)
end Go.Proofs.Ytbeojfhakmbacaa
namespace Go.Proofs.Ytbeojfhakmbacaa
open Go.RowKit
set_option maxHeartbeats 16000000 in
theorem validRecv_c (m : Int) (A : Option Addr) (c : Nat) (l : List Hd) (w : World) (h1 : Hid (Reads w w.heap.size 10 A l.length (hds l))) (b1 : l.length ≤ 4000000)  : Calls Try.prog 18 #[.agg #[.int .i64 m, .slice A l.length c]] w (Gives w (.bool (okR m l))) := by
  rcases hm : wi m 0 9999 with _ | _
  · have HF := hide (okR_min (l := l) hm)
    go_enter Try.func18, Try.ntmps18
    go_wp2_with (first | (go_at_call 61; refine (isMinute_c _ _).mono ?_; rintro e w1 ⟨rfl, rfl⟩))
    go_returns
    exact ⟨ret_eq (by rw [HF.out]; simp), by go_grown⟩
  by_cases hsix : 6 < l.length
  · have HF := hide (okR_six (m := m) hsix)
    go_enter Try.func18, Try.ntmps18
    go_wp2_with (first | (go_at_call 61; refine (isMinute_c _ _).mono ?_; rintro e w1 ⟨rfl, rfl⟩))
    go_returns
    exact ⟨ret_eq (by rw [HF.out]; simp), by go_grown⟩
  have hM := hide hm
  have h6 : l.length ≤ 6 := by omega
  go_enter Try.func18, Try.ntmps18
  go_wp2_with (first | (go_at_call 61; refine (isMinute_c _ _).mono ?_; rintro e w1 ⟨rfl, rfl⟩))
  go_loopw [18] (fun iv wr => ∃ i : Nat, i ≤ l.length ∧ iv = .int .i64 i ∧ Hid (okN m l i) ∧ (wr.cell? ⟨w.heap.size, 0, none⟩ = some (.int .i64 m) ∧ wr.cell? ⟨w.heap.size, 1, none⟩ = some (.slice A l.length c) ∧ Below w.heap.size w wr)) (fun iv _ => l.length - (intOf iv).toNat)
  case atStart => exact ⟨0, by omega, rfl, hide okN_zero, by first | (with_reducible assumption) | (exact hS) | (exact ⟨hS.1, hS.2.1, (by go_grown)⟩) | (exact ⟨(by first | (with_reducible assumption) | (simp [go_sem]; done) | ((simp only [go_sem]); (with_reducible assumption)) | ((refine keep_cell ?_ (by with_reducible assumption)); go_grown; done) | (simp [go_sem, *]; done)), (by first | (with_reducible assumption) | (simp [go_sem]; done) | ((simp only [go_sem]); (with_reducible assumption)) | ((refine keep_cell ?_ (by with_reducible assumption)); go_grown; done) | (simp [go_sem, *]; done)), (by go_grown)⟩)⟩
  case round =>
    obtain ⟨i, hi, rfl, HN, hS⟩ := hrel
    have hS2 := hS
    obtain ⟨r0, r1, hB⟩ := hS2
    have hzw : w.heap.size ≤ wr.heap.size := hB.size
    have hz1 : w.heap.size < wr.heap.size := World.block_lt_of_cell? wr _ (hS.1)
    by_cases hlt : i < l.length
    rotate_left
    · obtain rfl : i = l.length := by omega
      have HF := hide (okR_yes hM.out h6 HN.out)
      go_wp2
      go_returns
      exact ⟨ret_eq (by rw [HF.out]; simp), by go_grown⟩
    obtain ⟨⟨a, ⟨eo, ea, eb⟩, et, ⟨oo, oa, ob⟩, ot, f⟩, he⟩ : ∃ q, hx l i = q := ⟨_, rfl⟩
    obtain ⟨a1, rfl, ekb, e0, e1, e2, e3, e4, e5, e6, e7, e8, e9⟩ := (h1.out.below hB).hd (k := i) (by omega) he
    have HE := hide he
    clear he
    have HO := hide (okH_eq (m := m) HE.out)
    by_cases hz : i = 0
    · have HZ := hide hz
      have hz0 : ¬ 0 < i := by omega
      clear hz
      rcases k1 : wi a 1 65535 with _ | _
      have HF := hide (okR_bad (m := m) hlt (fun h => by rw [HO.out] at h; simp [k1] at h))
      rotate_left
      rcases k2 : wi f 1 9999 with _ | _
      have HF := hide (okR_bad (m := m) hlt (fun h => by rw [HO.out] at h; simp [k2] at h))
      rotate_left
      rcases k3 : kpt (eo, ea, eb) et false m with _ | _
      have HF := hide (okR_bad (m := m) hlt (fun h => by rw [HO.out] at h; simp [k3] at h))
      rotate_left
      rcases k4 : kpt (oo, oa, ob) ot true m with _ | _
      have HF := hide (okR_bad (m := m) hlt (fun h => by rw [HO.out] at h; simp [k4] at h))
      rotate_left
      have HN2 := hide (okN_succ HN.out (by rw [HO.out, k1, k2, k3, k4]; rfl) (by rw [HZ.out]; exact asc_zero))
      all_goals go_wp2
      all_goals
        refine wp_region_det (fun w' => w'.cell? ⟨w.heap.size, 0, none⟩ = some (.int .i64 m) ∧ w'.cell? ⟨w.heap.size, 1, none⟩ = some (.slice (some a1) l.length c) ∧ w'.cell? ⟨wr.heap.size, 0, none⟩ = some (.int .i64 a) ∧ w'.cell? ⟨wr.heap.size, 1, none⟩ = some (.bool eo) ∧ w'.cell? ⟨wr.heap.size, 2, none⟩ = some (.int .i64 ea) ∧ w'.cell? ⟨wr.heap.size, 3, none⟩ = some (.int .i64 eb) ∧ w'.cell? ⟨wr.heap.size, 4, none⟩ = some (.int .i64 et) ∧ w'.cell? ⟨wr.heap.size, 5, none⟩ = some (.bool oo) ∧ w'.cell? ⟨wr.heap.size, 6, none⟩ = some (.int .i64 oa) ∧ w'.cell? ⟨wr.heap.size, 7, none⟩ = some (.int .i64 ob) ∧ w'.cell? ⟨wr.heap.size, 8, none⟩ = some (.int .i64 ot) ∧ w'.cell? ⟨wr.heap.size, 9, none⟩ = some (.int .i64 f) ∧ Below w.heap.size w w') (by kernel_rfl) (by kernel_rfl) (by first | (with_reducible assumption) | (exact hS) | (exact ⟨hS.1, hS.2.1, hS.2.2.1, hS.2.2.2.1, hS.2.2.2.2.1, hS.2.2.2.2.2.1, hS.2.2.2.2.2.2.1, hS.2.2.2.2.2.2.2.1, hS.2.2.2.2.2.2.2.2.1, hS.2.2.2.2.2.2.2.2.2.1, hS.2.2.2.2.2.2.2.2.2.2.1, hS.2.2.2.2.2.2.2.2.2.2.2.1, (by go_grown)⟩) | (exact ⟨(by first | (with_reducible assumption) | (simp [go_sem]; done) | ((simp only [go_sem]); (with_reducible assumption)) | ((refine keep_cell ?_ (by with_reducible assumption)); go_grown; done) | (simp [go_sem, *]; done)), (by first | (with_reducible assumption) | (simp [go_sem]; done) | ((simp only [go_sem]); (with_reducible assumption)) | ((refine keep_cell ?_ (by with_reducible assumption)); go_grown; done) | (simp [go_sem, *]; done)), (by first | (with_reducible assumption) | (simp [go_sem]; done) | ((simp only [go_sem]); (with_reducible assumption)) | ((refine keep_cell ?_ (by with_reducible assumption)); go_grown; done) | (simp [go_sem, *]; done)), (by first | (with_reducible assumption) | (simp [go_sem]; done) | ((simp only [go_sem]); (with_reducible assumption)) | ((refine keep_cell ?_ (by with_reducible assumption)); go_grown; done) | (simp [go_sem, *]; done)), (by first | (with_reducible assumption) | (simp [go_sem]; done) | ((simp only [go_sem]); (with_reducible assumption)) | ((refine keep_cell ?_ (by with_reducible assumption)); go_grown; done) | (simp [go_sem, *]; done)), (by first | (with_reducible assumption) | (simp [go_sem]; done) | ((simp only [go_sem]); (with_reducible assumption)) | ((refine keep_cell ?_ (by with_reducible assumption)); go_grown; done) | (simp [go_sem, *]; done)), (by first | (with_reducible assumption) | (simp [go_sem]; done) | ((simp only [go_sem]); (with_reducible assumption)) | ((refine keep_cell ?_ (by with_reducible assumption)); go_grown; done) | (simp [go_sem, *]; done)), (by first | (with_reducible assumption) | (simp [go_sem]; done) | ((simp only [go_sem]); (with_reducible assumption)) | ((refine keep_cell ?_ (by with_reducible assumption)); go_grown; done) | (simp [go_sem, *]; done)), (by first | (with_reducible assumption) | (simp [go_sem]; done) | ((simp only [go_sem]); (with_reducible assumption)) | ((refine keep_cell ?_ (by with_reducible assumption)); go_grown; done) | (simp [go_sem, *]; done)), (by first | (with_reducible assumption) | (simp [go_sem]; done) | ((simp only [go_sem]); (with_reducible assumption)) | ((refine keep_cell ?_ (by with_reducible assumption)); go_grown; done) | (simp [go_sem, *]; done)), (by first | (with_reducible assumption) | (simp [go_sem]; done) | ((simp only [go_sem]); (with_reducible assumption)) | ((refine keep_cell ?_ (by with_reducible assumption)); go_grown; done) | (simp [go_sem, *]; done)), (by first | (with_reducible assumption) | (simp [go_sem]; done) | ((simp only [go_sem]); (with_reducible assumption)) | ((refine keep_cell ?_ (by with_reducible assumption)); go_grown; done) | (simp [go_sem, *]; done)), (by go_grown)⟩)) ?_
        repeat (first
          | ((refine wpDet_skip (by rfl) ?_); simp only [Act.put, zp1, zp2, zp3])
          | ((refine wpDet_val (v := ?_) (by rfl) (fun w hS => ?_) ?_); rotate_left; (focus ((try dsimp only at hS); go_simp; (try (with_reducible rfl)); done)); simp only [Act.put, zp1, zp2, zp3])
          | ((refine wpDet_call (v := ?_) (f := ?_) (args := ?_) (by rfl) (fun w => ?_) (fun w hS => ?_) ?_); rotate_left; rotate_left; rotate_left; (focus (go_simp; (constructor <;> (with_reducible rfl)); done)); (focus (first | (go_at_call 62; refine (isAddress_c _ _).mono ?_; intro e w' h; refine ⟨h.1.trans ?_, h.2 ▸ hS⟩; with_reducible rfl) | (go_at_call 63; refine (within_c _ _ _ _).mono ?_; intro e w' h; refine ⟨h.1.trans ?_, h.2 ▸ hS⟩; with_reducible rfl) | (go_at_call 64; refine (isKept_c _ _ _ _ _ _ _).mono ?_; intro e w' h; refine ⟨h.1.trans ?_, ⟨keep_cell (h.2) hS.1, keep_cell (h.2) hS.2.1, keep_cell (h.2) hS.2.2.1, keep_cell (h.2) hS.2.2.2.1, keep_cell (h.2) hS.2.2.2.2.1, keep_cell (h.2) hS.2.2.2.2.2.1, keep_cell (h.2) hS.2.2.2.2.2.2.1, keep_cell (h.2) hS.2.2.2.2.2.2.2.1, keep_cell (h.2) hS.2.2.2.2.2.2.2.2.1, keep_cell (h.2) hS.2.2.2.2.2.2.2.2.2.1, keep_cell (h.2) hS.2.2.2.2.2.2.2.2.2.2.1, keep_cell (h.2) hS.2.2.2.2.2.2.2.2.2.2.2.1, below_via hS.2.2.2.2.2.2.2.2.2.2.2.2 (h.2)⟩⟩; with_reducible rfl))); simp only [Act.put, zp1, zp2, zp3]))
        refine wpDet_nil ?_
        intro w1 hS
        have hT : w1.cell? ⟨w.heap.size, 0, none⟩ = some (.int .i64 m) ∧ w1.cell? ⟨w.heap.size, 1, none⟩ = some (.slice (some a1) l.length c) ∧ w1.cell? ⟨wr.heap.size, 0, none⟩ = some (.int .i64 a) ∧ w1.cell? ⟨wr.heap.size, 1, none⟩ = some (.bool eo) ∧ w1.cell? ⟨wr.heap.size, 2, none⟩ = some (.int .i64 ea) ∧ w1.cell? ⟨wr.heap.size, 3, none⟩ = some (.int .i64 eb) ∧ w1.cell? ⟨wr.heap.size, 4, none⟩ = some (.int .i64 et) ∧ w1.cell? ⟨wr.heap.size, 5, none⟩ = some (.bool oo) ∧ w1.cell? ⟨wr.heap.size, 6, none⟩ = some (.int .i64 oa) ∧ w1.cell? ⟨wr.heap.size, 7, none⟩ = some (.int .i64 ob) ∧ w1.cell? ⟨wr.heap.size, 8, none⟩ = some (.int .i64 ot) ∧ w1.cell? ⟨wr.heap.size, 9, none⟩ = some (.int .i64 f) ∧ Below w.heap.size w w1 := hS
        clear hS
        have hS := hT
        obtain ⟨c0, c1, c2, c3, c4, c5, c6, c7, c8, c9, c10, c11, hB⟩ := hT
        have hzw : w.heap.size ≤ w1.heap.size := hB.size
        have hz1 : w.heap.size < w1.heap.size := World.block_lt_of_cell? w1 _ (hS.1)
        have hz2 : wr.heap.size < w1.heap.size := World.block_lt_of_cell? w1 _ (hS.2.2.1)
        go_wp2
      go_roundw
      case rel => exact ⟨i + 1, by omega, by go_num, HN2, by first | (with_reducible assumption) | (exact hS) | (exact ⟨hS.1, hS.2.1, (by go_grown)⟩) | (exact ⟨(by first | (with_reducible assumption) | (simp [go_sem]; done) | ((simp only [go_sem]); (with_reducible assumption)) | ((refine keep_cell ?_ (by with_reducible assumption)); go_grown; done) | (simp [go_sem, *]; done)), (by first | (with_reducible assumption) | (simp [go_sem]; done) | ((simp only [go_sem]); (with_reducible assumption)) | ((refine keep_cell ?_ (by with_reducible assumption)); go_grown; done) | (simp [go_sem, *]; done)), (by go_grown)⟩)⟩
      case measure => simp [intOf]; omega
      all_goals
        go_returns
        exact ⟨ret_eq (by rw [HF.out]; simp), by go_grown⟩
    obtain ⟨k, hk⟩ : ∃ k, i = k + 1 := ⟨i - 1, by omega⟩
    have hz0 : 0 < i := by omega
    have ek : IntKind.i64.wrap ((i : Int) - 1) = (k : Int) := by rw [show (i : Int) - 1 = (k : Int) from by omega]; exact IntWalk.i64_in _ (by omega)
    have HK := hide hk
    have hkl : k < l.length := by omega
    obtain ⟨a2, ha2⟩ : ∃ q, (hx l k).1 = q := ⟨_, rfl⟩
    obtain ⟨ad2, hd2, gkb, g0⟩ := (h1.out.below hB).hd1 (k := k) hkl ha2
    cases hd2
    clear hk hz
    have hasc := hide (show ascH l i ↔ a2 < a from by have h9 := HE.out; rw [HK.out] at h9 ⊢; exact asc_succ (by rw [h9]) ha2)
    rcases k1 : wi a 1 65535 with _ | _
    have HF := hide (okR_bad (m := m) hlt (fun h => by rw [HO.out] at h; simp [k1] at h))
    rotate_left
    rcases k2 : wi f 1 9999 with _ | _
    have HF := hide (okR_bad (m := m) hlt (fun h => by rw [HO.out] at h; simp [k2] at h))
    rotate_left
    rcases k3 : kpt (eo, ea, eb) et false m with _ | _
    have HF := hide (okR_bad (m := m) hlt (fun h => by rw [HO.out] at h; simp [k3] at h))
    rotate_left
    rcases k4 : kpt (oo, oa, ob) ot true m with _ | _
    have HF := hide (okR_bad (m := m) hlt (fun h => by rw [HO.out] at h; simp [k4] at h))
    rotate_left
    by_cases hq3 : a ≤ a2
    have hq : ¬ a2 < a := by omega
    have HF := hide (okR_bad (m := m) hlt (fun h => absurd (hasc.out.1 h.2) (by omega)))
    rotate_left
    have hq : a2 < a := by omega
    clear hq3
    have HN2 := hide (okN_succ HN.out (by rw [HO.out, k1, k2, k3, k4]; rfl) (hasc.out.2 hq))
    have hq2 : (a ≤ a2) = False := eq_false (by omega)
    all_goals go_wp2
    all_goals
      refine wp_region_det (fun w' => w'.cell? ⟨w.heap.size, 0, none⟩ = some (.int .i64 m) ∧ w'.cell? ⟨w.heap.size, 1, none⟩ = some (.slice (some a1) l.length c) ∧ w'.cell? ⟨wr.heap.size, 0, none⟩ = some (.int .i64 a) ∧ w'.cell? ⟨wr.heap.size, 1, none⟩ = some (.bool eo) ∧ w'.cell? ⟨wr.heap.size, 2, none⟩ = some (.int .i64 ea) ∧ w'.cell? ⟨wr.heap.size, 3, none⟩ = some (.int .i64 eb) ∧ w'.cell? ⟨wr.heap.size, 4, none⟩ = some (.int .i64 et) ∧ w'.cell? ⟨wr.heap.size, 5, none⟩ = some (.bool oo) ∧ w'.cell? ⟨wr.heap.size, 6, none⟩ = some (.int .i64 oa) ∧ w'.cell? ⟨wr.heap.size, 7, none⟩ = some (.int .i64 ob) ∧ w'.cell? ⟨wr.heap.size, 8, none⟩ = some (.int .i64 ot) ∧ w'.cell? ⟨wr.heap.size, 9, none⟩ = some (.int .i64 f) ∧ w'.cell? (a1.add (k * 10)) = some (.int .i64 a2) ∧ Below w.heap.size w w') (by kernel_rfl) (by kernel_rfl) (by first | (with_reducible assumption) | (exact hS) | (exact ⟨hS.1, hS.2.1, hS.2.2.1, hS.2.2.2.1, hS.2.2.2.2.1, hS.2.2.2.2.2.1, hS.2.2.2.2.2.2.1, hS.2.2.2.2.2.2.2.1, hS.2.2.2.2.2.2.2.2.1, hS.2.2.2.2.2.2.2.2.2.1, hS.2.2.2.2.2.2.2.2.2.2.1, hS.2.2.2.2.2.2.2.2.2.2.2.1, hS.2.2.2.2.2.2.2.2.2.2.2.2.1, (by go_grown)⟩) | (exact ⟨(by first | (with_reducible assumption) | (simp [go_sem]; done) | ((simp only [go_sem]); (with_reducible assumption)) | ((refine keep_cell ?_ (by with_reducible assumption)); go_grown; done) | (simp [go_sem, *]; done)), (by first | (with_reducible assumption) | (simp [go_sem]; done) | ((simp only [go_sem]); (with_reducible assumption)) | ((refine keep_cell ?_ (by with_reducible assumption)); go_grown; done) | (simp [go_sem, *]; done)), (by first | (with_reducible assumption) | (simp [go_sem]; done) | ((simp only [go_sem]); (with_reducible assumption)) | ((refine keep_cell ?_ (by with_reducible assumption)); go_grown; done) | (simp [go_sem, *]; done)), (by first | (with_reducible assumption) | (simp [go_sem]; done) | ((simp only [go_sem]); (with_reducible assumption)) | ((refine keep_cell ?_ (by with_reducible assumption)); go_grown; done) | (simp [go_sem, *]; done)), (by first | (with_reducible assumption) | (simp [go_sem]; done) | ((simp only [go_sem]); (with_reducible assumption)) | ((refine keep_cell ?_ (by with_reducible assumption)); go_grown; done) | (simp [go_sem, *]; done)), (by first | (with_reducible assumption) | (simp [go_sem]; done) | ((simp only [go_sem]); (with_reducible assumption)) | ((refine keep_cell ?_ (by with_reducible assumption)); go_grown; done) | (simp [go_sem, *]; done)), (by first | (with_reducible assumption) | (simp [go_sem]; done) | ((simp only [go_sem]); (with_reducible assumption)) | ((refine keep_cell ?_ (by with_reducible assumption)); go_grown; done) | (simp [go_sem, *]; done)), (by first | (with_reducible assumption) | (simp [go_sem]; done) | ((simp only [go_sem]); (with_reducible assumption)) | ((refine keep_cell ?_ (by with_reducible assumption)); go_grown; done) | (simp [go_sem, *]; done)), (by first | (with_reducible assumption) | (simp [go_sem]; done) | ((simp only [go_sem]); (with_reducible assumption)) | ((refine keep_cell ?_ (by with_reducible assumption)); go_grown; done) | (simp [go_sem, *]; done)), (by first | (with_reducible assumption) | (simp [go_sem]; done) | ((simp only [go_sem]); (with_reducible assumption)) | ((refine keep_cell ?_ (by with_reducible assumption)); go_grown; done) | (simp [go_sem, *]; done)), (by first | (with_reducible assumption) | (simp [go_sem]; done) | ((simp only [go_sem]); (with_reducible assumption)) | ((refine keep_cell ?_ (by with_reducible assumption)); go_grown; done) | (simp [go_sem, *]; done)), (by first | (with_reducible assumption) | (simp [go_sem]; done) | ((simp only [go_sem]); (with_reducible assumption)) | ((refine keep_cell ?_ (by with_reducible assumption)); go_grown; done) | (simp [go_sem, *]; done)), (by first | (with_reducible assumption) | (simp [go_sem]; done) | ((simp only [go_sem]); (with_reducible assumption)) | ((refine keep_cell ?_ (by with_reducible assumption)); go_grown; done) | (simp [go_sem, *]; done)), (by go_grown)⟩)) ?_
      repeat (first
        | ((refine wpDet_skip (by rfl) ?_); simp only [Act.put, zp1, zp2, zp3])
        | ((refine wpDet_val (v := ?_) (by rfl) (fun w hS => ?_) ?_); rotate_left; (focus ((try dsimp only at hS); go_simp; (try (with_reducible rfl)); done)); simp only [Act.put, zp1, zp2, zp3])
        | ((refine wpDet_call (v := ?_) (f := ?_) (args := ?_) (by rfl) (fun w => ?_) (fun w hS => ?_) ?_); rotate_left; rotate_left; rotate_left; (focus (go_simp; (constructor <;> (with_reducible rfl)); done)); (focus (first | (go_at_call 62; refine (isAddress_c _ _).mono ?_; intro e w' h; refine ⟨h.1.trans ?_, h.2 ▸ hS⟩; with_reducible rfl) | (go_at_call 63; refine (within_c _ _ _ _).mono ?_; intro e w' h; refine ⟨h.1.trans ?_, h.2 ▸ hS⟩; with_reducible rfl) | (go_at_call 64; refine (isKept_c _ _ _ _ _ _ _).mono ?_; intro e w' h; refine ⟨h.1.trans ?_, ⟨keep_cell (h.2) hS.1, keep_cell (h.2) hS.2.1, keep_cell (h.2) hS.2.2.1, keep_cell (h.2) hS.2.2.2.1, keep_cell (h.2) hS.2.2.2.2.1, keep_cell (h.2) hS.2.2.2.2.2.1, keep_cell (h.2) hS.2.2.2.2.2.2.1, keep_cell (h.2) hS.2.2.2.2.2.2.2.1, keep_cell (h.2) hS.2.2.2.2.2.2.2.2.1, keep_cell (h.2) hS.2.2.2.2.2.2.2.2.2.1, keep_cell (h.2) hS.2.2.2.2.2.2.2.2.2.2.1, keep_cell (h.2) hS.2.2.2.2.2.2.2.2.2.2.2.1, keep_cell (h.2) hS.2.2.2.2.2.2.2.2.2.2.2.2.1, below_via hS.2.2.2.2.2.2.2.2.2.2.2.2.2 (h.2)⟩⟩; with_reducible rfl))); simp only [Act.put, zp1, zp2, zp3]))
      refine wpDet_nil ?_
      intro w1 hS
      have hT : w1.cell? ⟨w.heap.size, 0, none⟩ = some (.int .i64 m) ∧ w1.cell? ⟨w.heap.size, 1, none⟩ = some (.slice (some a1) l.length c) ∧ w1.cell? ⟨wr.heap.size, 0, none⟩ = some (.int .i64 a) ∧ w1.cell? ⟨wr.heap.size, 1, none⟩ = some (.bool eo) ∧ w1.cell? ⟨wr.heap.size, 2, none⟩ = some (.int .i64 ea) ∧ w1.cell? ⟨wr.heap.size, 3, none⟩ = some (.int .i64 eb) ∧ w1.cell? ⟨wr.heap.size, 4, none⟩ = some (.int .i64 et) ∧ w1.cell? ⟨wr.heap.size, 5, none⟩ = some (.bool oo) ∧ w1.cell? ⟨wr.heap.size, 6, none⟩ = some (.int .i64 oa) ∧ w1.cell? ⟨wr.heap.size, 7, none⟩ = some (.int .i64 ob) ∧ w1.cell? ⟨wr.heap.size, 8, none⟩ = some (.int .i64 ot) ∧ w1.cell? ⟨wr.heap.size, 9, none⟩ = some (.int .i64 f) ∧ w1.cell? (a1.add (k * 10)) = some (.int .i64 a2) ∧ Below w.heap.size w w1 := hS
      clear hS
      have hS := hT
      obtain ⟨c0, c1, c2, c3, c4, c5, c6, c7, c8, c9, c10, c11, c12, hB⟩ := hT
      have hzw : w.heap.size ≤ w1.heap.size := hB.size
      have hz1 : w.heap.size < w1.heap.size := World.block_lt_of_cell? w1 _ (hS.1)
      have hz2 : wr.heap.size < w1.heap.size := World.block_lt_of_cell? w1 _ (hS.2.2.1)
      go_wp2
    go_roundw
    case rel => exact ⟨i + 1, by omega, by go_num, HN2, by first | (with_reducible assumption) | (exact hS) | (exact ⟨hS.1, hS.2.1, (by go_grown)⟩) | (exact ⟨(by first | (with_reducible assumption) | (simp [go_sem]; done) | ((simp only [go_sem]); (with_reducible assumption)) | ((refine keep_cell ?_ (by with_reducible assumption)); go_grown; done) | (simp [go_sem, *]; done)), (by first | (with_reducible assumption) | (simp [go_sem]; done) | ((simp only [go_sem]); (with_reducible assumption)) | ((refine keep_cell ?_ (by with_reducible assumption)); go_grown; done) | (simp [go_sem, *]; done)), (by go_grown)⟩)⟩
    case measure => simp [intOf]; omega
    all_goals
      go_returns
      exact ⟨ret_eq (by rw [HF.out]; simp), by go_grown⟩
end Go.Proofs.Ytbeojfhakmbacaa
namespace Go.Proofs.Ytbeojfhakmbacaa
open Go.RowKit
theorem gb_refl (w : World) (r : Option Nat) : w.grownBy w r := ⟨rfl, rfl, rfl, Nat.le_refl _, fun _ _ _ => rfl⟩
theorem gb_drew {w w' : World} {r : Option Nat} (h : w.grownBy w' r) : w.grownBy w'.drew r := ⟨h.os, h.tape, h.output, h.size, h.block⟩
theorem gb_below {w w' w'' : World} {r : Option Nat} (h : w.grownBy w' r) (hb : Below w'.heap.size w' w'') : w.grownBy w'' r :=
  ⟨hb.os.trans h.os, hb.tape.trans h.tape, hb.output.trans h.output, Nat.le_trans h.size hb.size, fun k hk hr => (hb.block k (Nat.lt_of_lt_of_le hk h.size)).trans (h.block k hk hr)⟩
theorem gb_alloc {w w' : World} {r : Option Nat} (h : w.grownBy w' r) (o : Obj) : w.grownBy (w'.alloc o) r := gb_below h (by go_grown)
theorem gb_set {w w' : World} {g : Nat} (h : w.grownBy w' (some g)) (k : Nat) (u : Value) : w.grownBy (w'.setCell ⟨g, k, none⟩ u) (some g) :=
  ⟨h.os, h.tape, h.output, by simpa using h.size, fun b hb hr => (Below.heap_setCell w' ⟨g, k, none⟩ u b (fun e => hr (by rw [e]))).trans (h.block b hb hr)⟩
def CurAt (w : World) (g : Nat) (i : Nat) (sd : Int) : Prop :=
  ∃ A n c, w.cell? ⟨g, 0, none⟩ = some (.slice A n c) ∧ w.cell? ⟨g, 1, none⟩ = some (.int .i64 (i : Int)) ∧ w.cell? ⟨g, 2, none⟩ = some (.int .u64 sd) ∧ n ≤ 65536 ∧
    (∀ j, w.frozen? ⟨g, j, none⟩ = false) ∧ (0 < n → ∃ ad : Addr, A = some ad ∧ ad.block < g ∧ ∀ j, j < n → ∃ b : Int, 0 ≤ b ∧ b ≤ 255 ∧ w.cell? (ad.add j) = some (.int .u8 b))
def Cur (w : World) (g k : Nat) : Prop := ∃ i sd, i ≤ k ∧ CurAt w g i sd
theorem CurAt.lt {w : World} {g i : Nat} {sd : Int} (h : CurAt w g i sd) : g < w.heap.size := by
  obtain ⟨A, n, c, h0, _⟩ := h
  exact World.block_lt_of_cell? w _ h0
theorem CurAt.keep {w w' : World} {g i : Nat} {sd : Int} (h : CurAt w g i sd) (hk : ∀ b, b ≤ g → w'.heap[b]? = w.heap[b]?) : CurAt w' g i sd := by
  obtain ⟨A, n, c, h0, h1, h2, hn, hf, hx⟩ := h
  have hc : ∀ j, w'.cell? ⟨g, j, none⟩ = w.cell? ⟨g, j, none⟩ := fun j => World.cell?_of_block (hk g (Nat.le_refl _))
  refine ⟨A, n, c, (hc 0).trans h0, (hc 1).trans h1, (hc 2).trans h2, hn, fun j => (World.frozen?_of_block (hk g (Nat.le_refl _))).trans (hf j), fun h => ?_⟩
  obtain ⟨ad, e, hb, ha⟩ := hx h
  refine ⟨ad, e, hb, fun j hj => ?_⟩
  obtain ⟨b, b0, b1, hc⟩ := ha j hj
  exact ⟨b, b0, b1, (World.cell?_of_block (hk _ (by rw [block_of_add]; omega))).trans hc⟩
theorem Cur.lt {w : World} {g k : Nat} (h : Cur w g k) : g < w.heap.size := by obtain ⟨i, sd, _, h⟩ := h; exact h.lt
theorem Cur.below {w w' : World} {g k : Nat} (h : Cur w g k) (hb : Below w.heap.size w w') : Cur w' g k := by
  have hl := h.lt
  obtain ⟨i, sd, hi, h⟩ := h
  exact ⟨i, sd, hi, h.keep fun b hb' => hb.block b (by omega)⟩
theorem Cur.more {w : World} {g k k' : Nat} (h : Cur w g k) (hk : k ≤ k') : Cur w g k' := by obtain ⟨i, sd, hi, h⟩ := h; exact ⟨i, sd, by omega, h⟩
theorem Cur.drew {w : World} {g k : Nat} (h : Cur w g k) : Cur w.drew g k := h.below (by go_grown)
theorem Cur.alloc {w : World} {g k : Nat} (h : Cur w g k) (o : Obj) : Cur (w.alloc o) g k := h.below (by go_grown)
theorem Cur.grown {w w' : World} {g k : Nat} (h : Cur w g k) {r : Option Nat} (hg : w.grownBy w' r) (hr : ∀ b, r = some b → g < b) : Cur w' g k := by
  have hl := h.lt
  obtain ⟨i, sd, hi, h⟩ := h
  exact ⟨i, sd, hi, h.keep fun b hb' => hg.block b (by omega) (fun e => by have := hr b e.symm; omega)⟩
def CurG (w : World) (g k : Nat) (V : Value → World → Prop) (e : Ending) (w' : World) : Prop := ∃ v, e = .returned v ∧ V v w' ∧ Cur w' g k ∧ w.grownBy w' (some g)
def IsI (a b : Int) (v : Value) (_ : World) : Prop := ∃ x : Int, v = .int .i64 x ∧ a ≤ x ∧ x ≤ b
def IsB (v : Value) (_ : World) : Prop := ∃ b : Bool, v = .bool b
def IsP (a b : Int) (v : Value) (_ : World) : Prop := ∃ x y : Int, v = .agg #[.int .i64 x, .int .i64 y] ∧ (a ≤ x ∧ x ≤ b) ∧ a ≤ y ∧ y ≤ b
theorem set_cur {w : World} {g i : Nat} {sd : Int} (h : CurAt w g i sd) (i' : Nat) (sd' : Int) : CurAt ((w.setCell ⟨g, 1, none⟩ (.int .i64 (i' : Int))).setCell ⟨g, 2, none⟩ (.int .u64 sd')) g i' sd' := by
  obtain ⟨A, n, c, h0, h1, h2, hn, hf, hx⟩ := h
  have e1 : (w.setCell ⟨g, 1, none⟩ (.int .i64 (i' : Int))).cell? ⟨g, 1, none⟩ = some (.int .i64 (i' : Int)) := World.cell?_setCell_same _ _ _ h1
  have e2 : (w.setCell ⟨g, 1, none⟩ (.int .i64 (i' : Int))).cell? ⟨g, 2, none⟩ = some (.int .u64 sd) := by rw [World.cell?_setCell_other _ _ _ _ (by simp)]; exact h2
  have hk : ∀ b, b ≠ g → ((w.setCell ⟨g, 1, none⟩ (.int .i64 (i' : Int))).setCell ⟨g, 2, none⟩ (.int .u64 sd')).heap[b]? = w.heap[b]? := fun b hb =>
    (Below.heap_setCell _ ⟨g, 2, none⟩ _ b hb).trans (Below.heap_setCell _ ⟨g, 1, none⟩ _ b hb)
  refine ⟨A, n, c, ?_, ?_, World.cell?_setCell_same _ _ _ e2, hn, fun j => by simpa using hf j, fun h => ?_⟩
  · rw [World.cell?_setCell_other _ _ _ _ (by simp), World.cell?_setCell_other _ _ _ _ (by simp)]; exact h0
  · rw [World.cell?_setCell_other _ _ _ _ (by simp)]; exact e1
  · obtain ⟨ad, e, hb, ha⟩ := hx h
    refine ⟨ad, e, hb, fun j hj => ?_⟩
    obtain ⟨b, b0, b1, hc⟩ := ha j hj
    exact ⟨b, b0, b1, (World.cell?_of_block (hk _ (by rw [block_of_add]; omega))).trans hc⟩
theorem cur_cells {w : World} {g : Nat} {x y z : Value} (h0 : w.cell? ⟨g, 0, none⟩ = some x) (h1 : w.cell? ⟨g, 1, none⟩ = some y) (h2 : w.cell? ⟨g, 2, none⟩ = some z) (u v : Value) :
    ((w.setCell ⟨g, 1, none⟩ u).setCell ⟨g, 2, none⟩ v).cell? ⟨g, 0, none⟩ = some x ∧ ((w.setCell ⟨g, 1, none⟩ u).setCell ⟨g, 2, none⟩ v).cell? ⟨g, 1, none⟩ = some u ∧ ((w.setCell ⟨g, 1, none⟩ u).setCell ⟨g, 2, none⟩ v).cell? ⟨g, 2, none⟩ = some v := by
  have e1 : (w.setCell ⟨g, 1, none⟩ u).cell? ⟨g, 1, none⟩ = some u := World.cell?_setCell_same _ _ _ h1
  have e2 : (w.setCell ⟨g, 1, none⟩ u).cell? ⟨g, 2, none⟩ = some z := by rw [World.cell?_setCell_other _ _ _ _ (by simp)]; exact h2
  refine ⟨?_, ?_, World.cell?_setCell_same _ _ _ e2⟩
  · rw [World.cell?_setCell_other _ _ _ _ (by simp), World.cell?_setCell_other _ _ _ _ (by simp)]; exact h0
  · rw [World.cell?_setCell_other _ _ _ _ (by simp)]; exact e1
theorem gb_seta {w w' : World} {r : Option Nat} (h : w.grownBy w' r) {a : Addr} (ha : w.heap.size ≤ a.block) (u : Value) : w.grownBy (w'.setCell a u) r :=
  ⟨h.os, h.tape, h.output, by simpa using h.size, fun b hb hr => (Below.heap_setCell w' a u b (by omega)).trans (h.block b hb hr)⟩
theorem Cur.setc {w : World} {g k : Nat} (h : Cur w g k) {a : Addr} (ha : g < a.block) (u : Value) : Cur (w.setCell a u) g k := by
  obtain ⟨i, sd, hi, h⟩ := h
  exact ⟨i, sd, hi, h.keep fun b hb => Below.heap_setCell w a u b (by omega)⟩
theorem below_gb {a w w' : World} {B g : Nat} (h : Below B a w) (hg : w.grownBy w' (some g)) (hB : B ≤ w.heap.size) (hb : B ≤ g) : Below B a w' :=
  h.grown hg hB fun k hk => by injection hk with hk; omega
theorem own_far {w : World} {base g : Nat} {e : TypeId} {size : Nat} {v : Value} {n : Nat} {xs : List Value} (h : w.ownsRow base e size v n xs) (hg : g < base) : v.ownBlock = none ∨ v.ownBlock ≠ some g := by
  cases hv : v.ownBlock with
  | none => exact .inl rfl
  | some k => exact .inr fun e => by injection e with e; have := (h.lt k hv).1; omega
theorem fre_gb {w w' : World} {r : Option Nat} {b : Nat} (h : b < w.heap.size ∧ ∀ i, w.frozen? ⟨b, i, none⟩ = false) (hg : w.grownBy w' r) (hne : some b ≠ r) : b < w'.heap.size ∧ ∀ i, w'.frozen? ⟨b, i, none⟩ = false :=
  ⟨Nat.lt_of_lt_of_le h.1 hg.size, fun i => (hg.frozen_far ⟨b, i, none⟩ h.1 hne).trans (h.2 i)⟩
theorem box2_sets {w : World} {g : Nat} {x y : Value} (h0 : w.cell? ⟨g, 0, none⟩ = some x) (h1 : w.cell? ⟨g, 1, none⟩ = some y) (u v : Value) :
    (w.setCell ⟨g, 0, none⟩ u).cell? ⟨g, 0, none⟩ = some u ∧ (w.setCell ⟨g, 0, none⟩ u).cell? ⟨g, 1, none⟩ = some y ∧
    ((w.setCell ⟨g, 0, none⟩ u).setCell ⟨g, 1, none⟩ v).cell? ⟨g, 0, none⟩ = some u ∧ ((w.setCell ⟨g, 0, none⟩ u).setCell ⟨g, 1, none⟩ v).cell? ⟨g, 1, none⟩ = some v := by
  have e0 : (w.setCell ⟨g, 0, none⟩ u).cell? ⟨g, 0, none⟩ = some u := World.cell?_setCell_same _ _ _ h0
  have e1 : (w.setCell ⟨g, 0, none⟩ u).cell? ⟨g, 1, none⟩ = some y := by rw [World.cell?_setCell_other _ _ _ _ (by simp)]; exact h1
  exact ⟨e0, e1, by rw [World.cell?_setCell_other _ _ _ _ (by simp)]; exact e0, World.cell?_setCell_same _ _ _ e1⟩
theorem box2_other {w : World} {g b : Nat} (h : b ≠ g) (u v : Value) (k : Nat) : ((w.setCell ⟨g, 0, none⟩ u).setCell ⟨g, 1, none⟩ v).cell? ⟨b, k, none⟩ = w.cell? ⟨b, k, none⟩ := by
  rw [World.cell?_setCell_other _ _ _ _ (by simp [h]), World.cell?_setCell_other _ _ _ _ (by simp [h])]
def CodeOk (w : World) (A : Option Addr) (n : Nat) : Prop := 0 < n → ∃ ad : Addr, A = some ad ∧ ad.block < w.heap.size ∧ ∀ j, j < n → ∃ b : Int, 0 ≤ b ∧ b ≤ 255 ∧ w.cell? (ad.add j) = some (.int .u8 b)
theorem CodeOk.below {w w' : World} {A : Option Addr} {n : Nat} (h : CodeOk w A n) (hb : Below w.heap.size w w') : CodeOk w' A n := fun hn => by
  obtain ⟨ad, e, hl, ha⟩ := h hn
  refine ⟨ad, e, Nat.lt_of_lt_of_le hl hb.size, fun j hj => ?_⟩
  obtain ⟨b, b0, b1, hc⟩ := ha j hj
  exact ⟨b, b0, b1, (hb.cell (by rw [block_of_add]; exact hl)).trans hc⟩
theorem cur_new {w : World} {A : Option Addr} {n c g : Nat} {e : TypeId} (h : CodeOk w A n) (hn : n ≤ 65536) (hg : w.heap.size = g) (k : Nat) : Cur (w.alloc (.cells #[.slice A n c, .int .i64 0, .int .u64 0] e)) g k := by
  subst hg
  refine ⟨0, 0, Nat.zero_le _, A, n, c, by simp [go_sem], by simp [go_sem], by simp [go_sem], hn, fun j => by simp [go_sem], fun hp => ?_⟩
  obtain ⟨ad, e, hl, ha⟩ := h hp
  refine ⟨ad, e, hl, fun j hj => ?_⟩
  obtain ⟨b, b0, b1, hc⟩ := ha j hj
  exact ⟨b, b0, b1, (World.cell?_alloc_lt w _ _ (by rw [block_of_add]; exact hl)).trans hc⟩
theorem lit_at {w : World} {xs : Array Value} {e : TypeId} {l : List Int} {H : Nat} (hx : xs = (ints l).toArray) (hH : w.heap.size = H) :
    ∀ j, j < l.length → (w.alloc (.cells xs e)).cell? ((⟨H, 0, none⟩ : Addr).add j) = some (.int .i64 (nth l j)) := by
  subst hx hH
  intro j hj
  have h := ints_at l j hj
  by_cases h0 : j = 0
  · subst h0; simp [go_sem, Addr.add, h]
  · simp [go_sem, Addr.add, h0, h]
theorem gb_row {w W w' : World} {r : Option Nat} {base : Nat} {e : TypeId} {size : Nat} {v : Value} {n : Nat} {xs : List Value} (h : w.grownBy W r) (ho : W.ownsRow base e size v n xs) (hg : W.grownBy w' v.ownBlock) (hb : w.heap.size ≤ base) : w.grownBy w' r :=
  ⟨hg.os.trans h.os, hg.tape.trans h.tape, hg.output.trans h.output, Nat.le_trans h.size hg.size, fun k hk hr => (hg.block k (Nat.lt_of_lt_of_le hk h.size) (fun e => by have := (ho.lt k e.symm).1; omega)).trans (h.block k hk hr)⟩
theorem cur_row {W w' : World} {g k base : Nat} {e : TypeId} {size : Nat} {v : Value} {n : Nat} {xs : List Value} (h : Cur W g k) (ho : W.ownsRow base e size v n xs) (hg : W.grownBy w' v.ownBlock) (hb : g < base) : Cur w' g k :=
  h.grown hg fun b hb' => by have := (ho.lt b hb').1; omega
theorem u64_and255 (a : Int) : 0 ≤ bits .and .u64 a 255 ∧ bits .and .u64 a 255 ≤ 255 := by
  have e : bits .and .u64 a 255 = IntKind.u64.wrap ((BitVec.ofInt 64 a &&& BitVec.ofInt 64 ((255 : Nat) : Int)).toNat : Int) := rfl
  have oB : (BitVec.ofInt 64 ((255 : Nat) : Int)).toNat = 255 := by rw [BitVec.ofInt_natCast, BitVec.toNat_ofNat]
  have h : (BitVec.ofInt 64 a &&& BitVec.ofInt 64 ((255 : Nat) : Int)).toNat ≤ 255 := by rw [BitVec.toNat_and, oB]; exact Nat.and_le_right
  rw [e, IntWalk.u64_in _ (by omega)]
  omega
end Go.Proofs.Ytbeojfhakmbacaa
namespace Go.Proofs.Ytbeojfhakmbacaa
open Go.RowKit
theorem box3_sets {w : World} {g : Nat} {x y z : Value} (h0 : w.cell? ⟨g, 0, none⟩ = some x) (h1 : w.cell? ⟨g, 1, none⟩ = some y) (h2 : w.cell? ⟨g, 2, none⟩ = some z) (u v t : Value) :
    (w.setCell ⟨g, 0, none⟩ u).cell? ⟨g, 1, none⟩ = some y ∧ ((w.setCell ⟨g, 0, none⟩ u).setCell ⟨g, 1, none⟩ v).cell? ⟨g, 2, none⟩ = some z ∧
    (((w.setCell ⟨g, 0, none⟩ u).setCell ⟨g, 1, none⟩ v).setCell ⟨g, 2, none⟩ t).cell? ⟨g, 0, none⟩ = some u ∧ (((w.setCell ⟨g, 0, none⟩ u).setCell ⟨g, 1, none⟩ v).setCell ⟨g, 2, none⟩ t).cell? ⟨g, 1, none⟩ = some v ∧ (((w.setCell ⟨g, 0, none⟩ u).setCell ⟨g, 1, none⟩ v).setCell ⟨g, 2, none⟩ t).cell? ⟨g, 2, none⟩ = some t := by
  obtain ⟨_, e1, e2, e3⟩ := box2_sets h0 h1 u v
  have e4 : ((w.setCell ⟨g, 0, none⟩ u).setCell ⟨g, 1, none⟩ v).cell? ⟨g, 2, none⟩ = some z := by rw [World.cell?_setCell_other _ _ _ _ (by simp), World.cell?_setCell_other _ _ _ _ (by simp)]; exact h2
  exact ⟨e1, e4, by rw [World.cell?_setCell_other _ _ _ _ (by simp)]; exact e2, by rw [World.cell?_setCell_other _ _ _ _ (by simp)]; exact e3, World.cell?_setCell_same _ _ _ e4⟩
theorem box3_other {w : World} {g b : Nat} (h : b ≠ g) (u v t : Value) (k : Nat) : (((w.setCell ⟨g, 0, none⟩ u).setCell ⟨g, 1, none⟩ v).setCell ⟨g, 2, none⟩ t).cell? ⟨b, k, none⟩ = w.cell? ⟨b, k, none⟩ := by
  rw [World.cell?_setCell_other _ _ _ _ (by simp [h])]; exact box2_other h u v k
end Go.Proofs.Ytbeojfhakmbacaa
namespace Go.Proofs.Ytbeojfhakmbacaa
open Go
section
variable {P : Program} {S : World → Prop}
def edgeOn (i : Nat) (o : Oper) : Oper := { o with after := o.after.push ⟨i, .data⟩ }
def strip (o : Oper) : Oper := { o with after := #[] }
theorem strip_op {o o' : Oper} (h : strip o = strip o') : o.dst = o'.dst ∧ o.op = o'.op ∧ o.type = o'.type ∧ o.pos = o'.pos ∧ o.guard = o'.guard := by
  obtain ⟨d, op, t, p, af, g⟩ := o
  obtain ⟨d', op', t', p', af', g'⟩ := o'
  simp only [strip, Oper.mk.injEq] at h
  exact ⟨h.1, h.2.1, h.2.2.1, h.2.2.2.1, h.2.2.2.2.2⟩
theorem exec_strip {o o' : Oper} (h : strip o = strip o') (ρ : Operand → Value) : execOp ρ o = execOp ρ o' := by
  obtain ⟨d, op, t, p, af, g⟩ := o
  obtain ⟨d', op', t', p', af', g'⟩ := o'
  simp only [strip, Oper.mk.injEq] at h
  obtain ⟨rfl, rfl, rfl, rfl, _, rfl⟩ := h
  rfl
theorem upon_strip {o o' : Oper} (h : strip o = strip o') (a : Act) (K : Act → World → Prop) (Q : Exit → Act → World → Prop) (r : Result Next) : o.upon P a K Q r = o'.upon P a K Q r := by
  obtain ⟨d, op, t, p, af, g⟩ := o
  obtain ⟨d', op', t', p', af', g'⟩ := o'
  simp only [strip, Oper.mk.injEq] at h
  obtain ⟨rfl, rfl, rfl, rfl, _, rfl⟩ := h
  cases r with
  | ok n w => cases n <;> rfl
  | halt x w => cases x <;> rfl
theorem wp_strip {o o' : Oper} (h : strip o = strip o') (a : Act) (w : World) (K : Act → World → Prop) (Q : Exit → Act → World → Prop) : o.wp P a w K Q = o'.wp P a w K Q := by
  unfold Oper.wp
  rw [exec_strip h, upon_strip h]
theorem asks_strip {o o' : Oper} (h : strip o = strip o') (a : Act) (w : World) : o.asks P a w = o'.asks P a w := by
  unfold Oper.asks
  rw [exec_strip h]
def Core (ops ops' : Array Oper) : Prop := ∀ j : Nat, (ops'[j]?).map strip = (ops[j]?).map strip
theorem Core.refl (ops : Array Oper) : Core ops ops := fun _ => rfl
theorem Core.trans {a b c : Array Oper} (h : Core a b) (h' : Core b c) : Core a c := fun j => (h' j).trans (h j)
theorem core_yield {ops ops' : Array Oper} (h : Core ops ops') (tmps : Array Value) : yielded ops' tmps = yielded ops tmps := by
  funext j
  have hj := h j
  unfold yielded
  have e : (ops'[j]?).bind (·.dst) = (ops[j]?).bind (·.dst) := by
    cases h1 : ops'[j]? <;> cases h2 : ops[j]? <;> rw [h1, h2] at hj <;> simp at hj
    simp [(strip_op hj).1]
  rw [e]
theorem wanted_strip {o o' : Oper} (h : strip o = strip o') (y : Nat → Option Bool) : Region.wanted o y = Region.wanted o' y := by
  unfold Region.wanted
  rw [(strip_op h).2.2.2.2]
theorem core_wpList {ops ops' : Array Oper} (h : Core ops ops') {Q : Exit → Act → World → Prop} : ∀ (l l' : List Oper), l'.map strip = l.map strip → wpList P ops' Q l' = wpList P ops Q l
  | [], [], _ => rfl
  | [], _ :: _, e => by simp at e
  | _ :: _, [], e => by simp at e
  | o :: l, o' :: l', e => by
    simp only [List.map_cons, List.cons.injEq] at e
    have ih := core_wpList (Q := Q) h l l' e.2
    funext a w
    unfold wpList
    rw [core_yield h, wanted_strip e.1, ih, wp_strip e.1, asks_strip e.1, (strip_op e.1).1]
section
variable {ops : Array Oper} {fs : List Nat} {i : Nat} {oi : Oper} {x : Operand} {Q : Exit → Act → World → Prop}
end
end
end Go.Proofs.Ytbeojfhakmbacaa
namespace Go.Proofs.Ytbeojfhakmbacaa
open Go
section
variable {P : Program}
def ExtF (ops : Array Oper) : List Nat → Array Bool → Prop
  | [], listed => Region.ready .any ops listed = []
  | i :: L, listed => i ∈ Region.ready .any ops listed ∧ ExtF ops L (listed.setIfInBounds i true)
theorem ext_lin (ops : Array Oper) : ∀ (fuel t : Nat) (listed : Array Bool), listed.size = ops.size → listed.toList.count false ≤ fuel → ExtF ops (Region.linearise.go .any ops fuel t listed []) listed := by
  intro fuel
  induction fuel with
  | zero =>
    intro t listed hs hc
    show Region.ready .any ops listed = []
    rcases hr : Region.ready .any ops listed with _ | ⟨i, r⟩
    · rfl
    · obtain ⟨hu, o, ho, _⟩ := ready_spec (ops := ops) (listed := listed) (i := i) (by rw [hr]; simp)
      have hil : i < listed.size := by rw [hs]; exact (Array.getElem?_eq_some_iff.1 ho).1
      have hv : listed[i] = false := by simpa [Array.getD, hil] using hu
      have hm : false ∈ listed.toList := by rw [← hv]; exact Array.mem_toList_iff.2 (Array.getElem_mem hil)
      have := List.count_pos_iff.2 hm
      omega
  | succ fuel ih =>
    intro t listed hs hc
    simp only [Region.linearise.go]
    change ExtF ops (match (Region.ready .any ops listed)[t % (Region.ready .any ops listed).length]? with
      | some i => Region.linearise.go .any ops fuel (t / (Region.ready .any ops listed).length) (listed.setIfInBounds i true) [i]
      | none => [].reverse) listed
    cases hi : (Region.ready .any ops listed)[t % (Region.ready .any ops listed).length]? with
    | none =>
      show Region.ready .any ops listed = []
      cases hr : Region.ready .any ops listed with
      | nil => rfl
      | cons x xs =>
        rw [hr] at hi
        have hlt : t % (x :: xs).length < (x :: xs).length := Nat.mod_lt _ (by simp)
        simp at hi
        simp at hlt
        omega
    | some i =>
      simp only []
      have hm := List.mem_of_getElem? hi
      obtain ⟨hu, o, ho, _⟩ := ready_spec hm
      rw [linearise_go_acc, List.reverse_singleton, List.singleton_append]
      exact ⟨hm, ih _ _ (by simpa using hs) (count_set hu hc)⟩
def RegAll (P : Program) (ops : Array Oper) (Q : Exit → Act → World → Prop) (a : Act) (w : World) : Prop := ∀ L, ExtF ops L (Array.replicate ops.size false) → wpOps P ops Q L a w
theorem wp_region_all {id : Nat} {l : List Oper} {a : Act} {w : World} {Q : Exit → Act → World → Prop} (hm : P.follows .mixedOrders = true) (h : RegAll P l.toArray Q a w.drew) : (Code.region id l.toArray true).wp P Q a w :=
  wp_region_draw fun t => by
    simp only [Region.schedule, hm, Bool.true_or, if_true]
    exact h _ (ext_lin _ _ _ _ (by simp) (Nat.le_trans List.count_le_length (by simp)))
theorem all_of_any {ops : Array Oper} {Q : Exit → Act → World → Prop} : ∀ (n : Nat) (L : List Nat) (listed : Array Bool) (a : Act) (w : World), wpAny P .any ops Q n listed a w → ExtF ops L listed → wpOps P ops Q L a w := by
  intro n
  induction n with
  | zero =>
    intro L listed a w h hx
    cases L with
    | nil => simpa [wpOps] using h.2
    | cons i L => have := hx.1; rw [h.1] at this; cases this
  | succ n ih =>
    intro L listed a w h hx
    cases L with
    | nil => simpa [wpOps] using h.1 hx
    | cons i L =>
      rw [wpOps_cons]
      exact wpOp_mono (fun a' w' h' => ih L _ a' w' h' hx.2) (h.2 i hx.1)
def addE (i j : Nat) (ops : Array Oper) : Array Oper := ops.mapIdx fun k o => if k = j then edgeOn i o else o
theorem addE_size (i j : Nat) (ops : Array Oper) : (addE i j ops).size = ops.size := by simp [addE]
theorem addE_at (i j : Nat) (ops : Array Oper) (k : Nat) : (addE i j ops)[k]? = (ops[k]?).map fun o => if k = j then edgeOn i o else o := by simp [addE]
theorem addE_core (i j : Nat) (ops : Array Oper) : Core ops (addE i j ops) := fun k => by
  rw [addE_at, Option.map_map]
  cases ops[k]? with
  | none => rfl
  | some o => simp only [Option.map_some, Function.comp]; split <;> rfl
theorem core_wpOps {ops ops' : Array Oper} (h : Core ops ops') {Q : Exit → Act → World → Prop} : ∀ (L : List Nat) (a : Act) (w : World), wpOps P ops' Q L a w → wpOps P ops Q L a w
  | [], a, w, hh => by simpa [wpOps] using hh
  | i :: L, a, w, hh => by
    rw [wpOps_cons] at hh ⊢
    have ih := core_wpOps h (Q := Q) L
    have hi := h i
    unfold wpOp at hh ⊢
    cases h1 : ops'[i]? <;> cases h2 : ops[i]? <;> rw [h1, h2] at hi <;> simp at hi <;> simp only [h1, h2] at hh ⊢
    · exact ih _ _ hh
    · rw [core_yield h, wanted_strip hi] at hh
      split
      · rename_i h4
        rw [if_pos h4, wp_strip hi, asks_strip hi] at hh
        exact hh.imp (Oper.wp_mono fun a w h => ih a w h) id
      · rename_i h4
        rw [if_neg h4, (strip_op hi).1] at hh
        exact ih _ _ hh
theorem ready_addE {i j : Nat} {ops : Array Oper} {listed : Array Bool} {k : Nat} : k ∈ Region.ready .any (addE i j ops) listed ↔ k ∈ Region.ready .any ops listed ∧ (k = j → listed.getD i false = true) := by
  unfold Region.ready
  simp only [List.mem_filter, List.mem_range, addE_size, addE_at]
  constructor
  · rintro ⟨h1, h2⟩
    have ho : ops[k]? = some ops[k] := Array.getElem?_eq_getElem h1
    simp only [ho, Option.map_some, Option.getD_some, Bool.and_eq_true] at h2 ⊢
    by_cases hk : k = j
    · rw [if_pos hk] at h2
      have h3 := h2.2
      simp only [edgeOn, Array.all_push, Bool.and_eq_true] at h3
      refine ⟨⟨h1, h2.1, h3.1⟩, fun _ => ?_⟩
      have h4 := h3.2
      have hb : Region.binds .any (⟨i, .data⟩ : Edge) = true := rfl
      rw [hb] at h4
      simpa using h4
    · rw [if_neg hk] at h2
      exact ⟨⟨h1, h2.1, h2.2⟩, fun e => absurd e hk⟩
  · rintro ⟨⟨h1, h2⟩, h3⟩
    have ho : ops[k]? = some ops[k] := Array.getElem?_eq_getElem h1
    simp only [ho, Option.map_some, Option.getD_some, Bool.and_eq_true] at h2 ⊢
    refine ⟨h1, h2.1, ?_⟩
    by_cases hk : k = j
    · rw [if_pos hk]
      simp only [edgeOn, Array.all_push, Bool.and_eq_true]
      exact ⟨h2.2, by rw [h3 hk]; simp⟩
    · rw [if_neg hk]; exact h2.2
def Fst (i j : Nat) : List Nat → Prop
  | [] => True
  | k :: R => k = i ∨ (k ≠ j ∧ Fst i j R)
theorem fst_or (i j : Nat) : ∀ L, Fst i j L ∨ Fst j i L
  | [] => .inl trivial
  | k :: R => by
    by_cases hi : k = i
    · exact .inl (.inl hi)
    · by_cases hj : k = j
      · exact .inr (.inl hj)
      · exact (fst_or i j R).imp (fun h => .inr ⟨hj, h⟩) (fun h => .inr ⟨hi, h⟩)
theorem ext_add {i j : Nat} (hij : i ≠ j) {ops : Array Oper} : ∀ (L : List Nat) (listed : Array Bool), listed.size = ops.size → ExtF ops L listed → listed.getD i false = true ∨ Fst i j L → ExtF (addE i j ops) L listed
  | [], listed, _, hx, _ => by
    show Region.ready .any (addE i j ops) listed = []
    rcases hr : Region.ready .any (addE i j ops) listed with _ | ⟨k, r⟩
    · rfl
    · have h1 : k ∈ Region.ready .any (addE i j ops) listed := by rw [hr]; simp
      have h2 := (ready_addE.1 h1).1
      have h3 : Region.ready .any ops listed = [] := hx
      rw [h3] at h2; cases h2
  | k :: L, listed, hs, hx, hf => by
    have hkl : k < listed.size := by
      obtain ⟨_, o, ho, _⟩ := ready_spec hx.1
      rw [hs]; exact (Array.getElem?_eq_some_iff.1 ho).1
    refine ⟨ready_addE.2 ⟨hx.1, fun e => ?_⟩, ext_add hij L _ (by simpa using hs) hx.2 ?_⟩
    · rcases hf with h | h | h
      · exact h
      · exact absurd (h.symm.trans e) hij
      · exact absurd e h.1
    · rw [getD_set hkl]
      rcases hf with h | h | h
      · left; split
        · rfl
        · exact h
      · left; rw [if_pos h.symm]
      · exact .inr h.2
theorem all_split {ops : Array Oper} {Q : Exit → Act → World → Prop} {a : Act} {w : World} (i j : Nat) (hij : i ≠ j) (h1 : RegAll P (addE i j ops) Q a w) (h2 : RegAll P (addE j i ops) Q a w) : RegAll P ops Q a w := fun L hL => by
  rcases fst_or i j L with h | h
  · exact core_wpOps (addE_core i j ops) L a w (h1 L (by rw [addE_size]; exact ext_add hij L _ (by simp) hL (.inr h)))
  · exact core_wpOps (addE_core j i ops) L a w (h2 L (by rw [addE_size]; exact ext_add (Ne.symm hij) L _ (by simp) hL (.inr h)))
theorem all_seq {a : Act} {w : World} {Q : Exit → Act → World → Prop} (eff : Oper → Bool) (ord : List Nat) (S : World → Prop) {l : List Oper} (hok : seqChk l.toArray eff ord = true) (hS : S w)
    (h : wpSeq P l.toArray eff (fun a' w' => Q .normal a' w') (byNum l ord) S a w) : RegAll P l.toArray Q a w := fun L hL => by
  have F := seqChk_spec hok
  have hmem : ∀ i ∈ ord, i < l.length := fun i hi => by
    obtain ⟨q, hq⟩ := List.getElem?_of_mem hi
    obtain ⟨j, oj, hj, hoj, _⟩ := F.at_ q (List.getElem?_eq_some_iff.1 hq).1
    rw [hq] at hj; cases hj
    simpa using (Array.getElem?_eq_some_iff.1 hoj).1
  refine all_of_any _ L _ a w (seq_any (a0 := a) F (R := fun a' w' => Q .normal a' w') (fun _ _ h => h) _ [] (byNum l ord) S _ a _ ?_ (fun q _ => ?_) hS (by simpa [stateAt] using h) (Nat.le_refl _)) hL
  · refine ⟨by simp, by simp, fun j oj hj hl => ?_, rfl, rfl, fun q j _ hj => ?_, by simp, by simp, by simp, fun t k hk _ => ?_⟩
    · have hlt : j < l.toArray.size := (Array.getElem?_eq_some_iff.1 hj).1
      have hlt' : j < l.length := by simpa using hlt
      simp [Array.getD, hlt'] at hl
    · have hjl := hmem j (List.mem_of_getElem? hj)
      simp [Array.getD, hjl]
    · simp [stateAt]
  · have := byNum_at (l := l) ord hmem q
    simpa using this
theorem all_seq' {a : Act} {w : World} {Q : Exit → Act → World → Prop} (eff : Oper → Bool) (ord : List Nat) (S : World → Prop) {ops : Array Oper} (hok : seqChk ops eff ord = true) (hS : S w)
    (h : wpSeq P ops eff (fun a' w' => Q .normal a' w') (byNum ops.toList ord) S a w) : RegAll P ops Q a w := by
  have e : ops.toList.toArray = ops := by simp
  have := all_seq (P := P) (a := a) (w := w) (Q := Q) eff ord S (l := ops.toList) (by rw [e]; exact hok) hS (by rw [e]; exact h)
  rwa [e] at this
theorem core_still {ops ops' : Array Oper} (h : Core ops ops') {S : World → Prop} {o o' : Oper} (e : strip o' = strip o) {v : Value} {a : Act} (hl : Still P ops S o v a) : Still P ops' S o' v a := by
  unfold Still at *
  rw [core_yield h, wanted_strip e, exec_strip e]
  exact hl
theorem core_wpSeq {ops ops' : Array Oper} (h : Core ops ops') {eff : Oper → Bool} (he : ∀ o o', strip o' = strip o → eff o' = eff o) {R : Act → World → Prop} : ∀ (l l' : List Oper) (S : World → Prop) (a : Act) (w : World), l'.map strip = l.map strip → wpSeq P ops eff R l S a w → wpSeq P ops' eff R l' S a w
  | [], [], _, _, _, _, hh => hh
  | [], _ :: _, _, _, _, e, _ => by simp at e
  | _ :: _, [], _, _, _, e, _ => by simp at e
  | o :: l, o' :: l', S, a, w, e, hh => by
    simp only [List.map_cons, List.cons.injEq] at e
    rcases hh with ⟨h1, v, h2, h3⟩ | ⟨h1, h2, h3⟩
    · exact .inl ⟨by rw [he _ _ e.1]; exact h1, v, core_still h e.1 h2, by rw [(strip_op e.1).1]; exact core_wpSeq h he l l' _ _ _ e.2 h3⟩
    · refine .inr ⟨by rw [he _ _ e.1]; exact h1, by rw [core_yield h, wanted_strip e.1]; exact h2, ?_⟩
      have hk : ∀ (v : Value) (w' : World), (∃ S' : World → Prop, S' w' ∧ (∀ W, S' W → S W) ∧ wpSeq P ops eff R l S' (a.put o.dst v) w') → ∃ S' : World → Prop, S' w' ∧ (∀ W, S' W → S W) ∧ wpSeq P ops' eff R l' S' (a.put o'.dst v) w' := fun v w' ⟨S', a1, a2, a3⟩ =>
        ⟨S', a1, a2, by rw [(strip_op e.1).1]; exact core_wpSeq h he l l' _ _ _ e.2 a3⟩
      unfold Does at h3 ⊢
      rw [exec_strip e.1]
      generalize (execOp a.eval o).run P w = r at h3
      cases r with
      | ok n w' =>
        cases n <;> simp only at h3 ⊢
        case value u => exact hk _ _ h3
        case skip => exact hk _ _ h3
        case enter f args => exact h3.mono fun e w'' ⟨v, he, hc⟩ => ⟨v, he, hk _ _ hc⟩
      | halt x w' => exact h3.elim
theorem deed_strip (o o' : Oper) (e : strip o' = strip o) : deed o' = deed o := by
  have h := strip_op e
  unfold deed
  rw [h.2.1]
theorem byNum_core {ops ops' : Array Oper} (h : Core ops ops') : ∀ ord, (byNum ops'.toList ord).map strip = (byNum ops.toList ord).map strip
  | [] => rfl
  | i :: r => by
    have ih := byNum_core h r
    have hi := h i
    unfold byNum
    have e1 : ops'.toList[i]? = ops'[i]? := by simp
    have e2 : ops.toList[i]? = ops[i]? := by simp
    rw [e1, e2]
    cases h1 : ops'[i]? <;> cases h2 : ops[i]? <;> rw [h1, h2] at hi <;> simp at hi
    · exact ih
    · simp only [List.map_cons, ih, hi]
theorem all_seq_core {a : Act} {w : World} {Q : Exit → Act → World → Prop} (ord : List Nat) (S : World → Prop) {l : List Oper} {ops' : Array Oper} (hc : Core l.toArray ops') (hok : seqChk ops' deed ord = true) (hS : S w)
    (h : wpSeq P l.toArray deed (fun a' w' => Q .normal a' w') (byNum l ord) S a w) : RegAll P ops' Q a w :=
  all_seq' deed ord S hok hS (core_wpSeq hc deed_strip _ _ S a w (by have := byNum_core hc ord; simpa using this) h)
end
end Go.Proofs.Ytbeojfhakmbacaa
namespace Go.Proofs.Ytbeojfhakmbacaa
open Go.RowKit
theorem infoByte : (Try.prog.info? 5).map (fun i => (i.zero, i.size, i.bytes)) = some (some (.int .u8 0), 1, 1) := by kernel_rfl
theorem conv_row {W : World} {base g cap : Nat} {e : TypeId} {l : List UInt8} (h : W.ownsRow base e 1 (.slice (some ⟨g, 0, none⟩) l.length cap) l.length (l.map byteVal)) :
    (convert 22 9 (.slice (some ⟨g, 0, none⟩) l.length cap)).run Try.prog W = .ok (.string (str l)) W :=
  run_convert_bytes_back (P := Try.prog) W 22 9 5 ⟨g, 0, none⟩ cap l Try.underlying22 Try.underlying5 Try.underlying9 (by
    intro j hj
    have h2 := h.cells (g := g) rfl j (byteVal l[j]) (by rw [List.getElem?_map, List.getElem?_eq_getElem hj]; rfl)
    exact h2)
theorem bitsOf_c (n : Int) (k : Nat) (h0 : 0 ≤ n) (h1 : n ≤ 1000000000000) (h2 : k ≤ 200) (w : World) : Calls Try.prog 103 #[.int .i64 n, .int .i64 k] w (Gives w (.string (str (bitsL n k)))) := by
  obtain ⟨i0, hi, iz0, iz1, iz2⟩ := info_parts infoByte
  go_enter Try.func103, Try.ntmps103
  go_wp2_with (first | (at_make; refine wpList_make_full _ rfl _ _ 22 rfl w.heap.size 5 i0 (.int .u8 0) 1 Try.underlying22 hi iz0 iz1 .i64 .i64 k k k rfl rfl rfl rfl (by rw [iz2]; omega) (by unfold maxLen; omega) (by simp) ?_; intro w1 hown hgrow))
  have hB1 : Below w.heap.size w w1 := (Below.refl _ _).grown hgrow (Nat.le_refl _) (by intro k hk; cases hk)
  have hz : (madeCells (Value.int .u8 0).cells (k * 1)).toList = List.replicate k (.int .u8 0) := by
    rw [Nat.mul_one]; exact toList_madeCells_one _ _
  rw [hz] at hown
  have HO := hide hown
  clear hown hz hgrow hi iz0 iz1 iz2
  go_loopw [0, 6] (fun nv iv wr => ∃ (j p : Nat) (m : Int), j + p = k ∧ nv = .int .i64 m ∧ Hid (m = n / 2 ^ j) ∧ 0 ≤ m ∧ m ≤ n ∧ iv = .int .i64 ((p : Int) - 1) ∧ Hid (wr.ownsRow w.heap.size 5 1 (.slice (some ⟨w.heap.size, 0, none⟩) k k) k (List.replicate p (.int .u8 0) ++ (bitsL n j).map byteVal)) ∧ Below w.heap.size w wr) (fun _ iv _ => (intOf iv + 1).toNat)
  case atStart => exact ⟨0, k, n, by omega, rfl, hide (by simp), h0, by omega, rfl, hide (by simpa [bitsL] using HO.out), hB1⟩
  case round =>
    obtain ⟨j, p, m, hjp, rfl, H, m0, m1, rfl, hown, hB⟩ := hrel
    have hzw : w.heap.size ≤ wr.heap.size := hB.size
    have e1 : m.tmod 2 = m % 2 := Int.tmod_eq_emod_of_nonneg m0
    have e2 : m.tdiv 2 = m / 2 := Int.tdiv_eq_ediv_of_nonneg m0
    by_cases hp : p = 0
    · subst hp
      obtain rfl : j = k := by omega
      have hc := conv_row (l := bitsL n j) (cap := j) (W := wr) (base := w.heap.size) (e := 5) (g := w.heap.size) (by rw [bitsL_len]; simpa using hown.out)
      rw [bitsL_len] at hc
      clear e1 e2
      go_wp2
      go_returns
      exact ⟨ret_eq (by simp), hB⟩
    · obtain ⟨q, rfl⟩ : ∃ q, p = q + 1 := ⟨p - 1, by omega⟩
      have hq : ((q + 1 : Nat) : Int) - 1 = q := by omega
      have hqk : q < k := by omega
      have hcell : wr.cell? ⟨w.heap.size, q, none⟩ = some (.int .u8 0) := by rw [hown.out.cellAt q (by omega)]; exact at_ahead _ _ _
      have hfr := hown.out.frozenAt q
      have hb : ((bit m).toNat : Int) = 48 + m % 2 := by have := bit_val m; omega
      have hst := hide (hown.out.stored q (byteVal (bit m)))
      have hbv : byteVal (bit m) = .int .u8 (48 + m % 2) := by unfold byteVal; rw [hb]
      rw [hbv] at hst
      clear hp hb hbv
      go_wp2
      go_roundw
      case rel =>
        refine ⟨j + 1, q, m / 2, by omega, by first | rfl | go_num, hide ?_, by omega, by omega, by first | rfl | go_num, hide ?_, ?_⟩
        · rw [H.out, div_pow_succ]
        · have h9 := hst.out.1
          rw [set_ahead] at h9
          rw [bitsL, List.map_cons, ← H.out, show byteVal (bit m) = .int .u8 (48 + m % 2) from by unfold byteVal; rw [show ((bit m).toNat : Int) = 48 + m % 2 from by have := bit_val m; omega]]
          exact h9
        · exact hB.setCell (p := ⟨w.heap.size, q, none⟩) (Nat.le_refl _) _
      case measure => simp [intOf]
end Go.Proofs.Ytbeojfhakmbacaa
namespace Go.Proofs.Ytbeojfhakmbacaa
open Go.RowKit
theorem ones_c (s : ByteArray) (hs : s.size ≤ 100000) (w : World) : Calls Try.prog 122 #[.string s] w fun r' w' => r' = .returned (.int .i64 (onesL s.data.toList)) ∧ w = w' := by
  go_enter Try.func122, Try.ntmps122
  go_wp2
  go_loop [3, 4] (fun nv iv => ∃ (i : Nat) (m : Int), i ≤ s.size ∧ nv = .int .i64 m ∧ iv = .int .i64 i ∧ Hid (m = onesL (s.data.toList.take i)) ∧ 0 ≤ m ∧ m ≤ i) (fun _ iv => s.size - (intOf iv).toNat)
  case atStart => exact ⟨0, 0, by omega, rfl, rfl, hide rfl, by omega, by omega⟩
  case round =>
    obtain ⟨i, m, hi, rfl, rfl, H, m0, m1⟩ := hrel
    by_cases hlt : i < s.size
    · have hts := take_snoc s i hlt
      by_cases hc : (s[i].toNat : Int) = 49
      · have HS := hide (show onesL (s.data.toList.take (i + 1)) = m + 1 from by
          have h9 : s[i] = 49 := UInt8.toNat_inj.1 (by have : UInt8.toNat 49 = 49 := rfl; omega)
          rw [hts, H.out, onesL, onesL, List.filter_append, h9]; simp)
        clear hts
        go_wp2
        go_round
        case rel => exact ⟨i + 1, _, by omega, rfl, by go_num, hide HS.out.symm, by omega, by omega⟩
        case measure => simp [intOf]; omega
      · have HS := hide (show onesL (s.data.toList.take (i + 1)) = m from by
          have h9 : ¬ s[i] = 49 := fun e => hc (by rw [e]; rfl)
          rw [hts, H.out, onesL, onesL, List.filter_append, List.filter_cons]; simp [h9])
        clear hts
        go_wp2
        go_round
        case rel => exact ⟨i + 1, _, by omega, rfl, by go_num, hide HS.out.symm, by omega, by omega⟩
        case measure => simp [intOf]; omega
    · go_wp2
      go_ret
      exact ⟨ret_eq (int_eq (by rw [H.out, List.take_of_length_le (by simp; omega)])), rfl⟩
end Go.Proofs.Ytbeojfhakmbacaa
namespace Go.Proofs.Ytbeojfhakmbacaa
open Go.RowKit
def BR (w : World) (g : Nat) (l : List UInt8) (cap : Nat) : Prop := ∃ cur fr, w.heap[g]? = some (.cells cur 5 fr) ∧ cur.toList.take l.length = l.map byteVal ∧ l.length ≤ cur.size ∧ cur.size ≤ fr.1 ∧ cur.size = cap
theorem BR.le {w : World} {g cap : Nat} {l : List UInt8} (h : BR w g l cap) : l.length ≤ cap := by obtain ⟨cur, fr, _, _, h3, _, h5⟩ := h; omega
theorem BR.lt {w : World} {g cap : Nat} {l : List UInt8} (h : BR w g l cap) : g < w.heap.size := by
  obtain ⟨cur, fr, h1, _⟩ := h
  exact (Array.getElem?_eq_some_iff.1 h1).1
theorem BR.cell {w : World} {g cap : Nat} {l : List UInt8} (h : BR w g l cap) {i : Nat} (hi : i < l.length) : w.cell? ⟨g, i, none⟩ = some (byteVal l[i]) := by
  obtain ⟨cur, fr, h1, h2, h3, _⟩ := h
  have h4 : cur[i]? = some (byteVal l[i]) := by
    have h5 : (cur.toList.take l.length)[i]? = (l.map byteVal)[i]? := by rw [h2]
    rw [List.getElem?_take, if_pos hi, List.getElem?_map, List.getElem?_eq_getElem hi] at h5
    simpa using h5
  simp [World.cell?, h1, h4]
theorem BR.frozen {w : World} {g cap : Nat} {l : List UInt8} (h : BR w g l cap) {i : Nat} (hi : i < l.length) : w.frozen? ⟨g, i, none⟩ = false := by
  obtain ⟨cur, fr, h1, _, h3, h4, _⟩ := h
  simp [World.frozen?, h1]
  omega
theorem BR.keep {w w' : World} {g cap : Nat} {l : List UInt8} (h : BR w g l cap) (hk : w'.heap[g]? = w.heap[g]?) : BR w' g l cap := by
  obtain ⟨cur, fr, h1, hr⟩ := h
  exact ⟨cur, fr, hk.trans h1, hr⟩
theorem BR.below {w w' : World} {g cap : Nat} {l : List UInt8} (h : BR w g l cap) (hb : Below w.heap.size w w') : BR w' g l cap := h.keep (hb.block g h.lt)
theorem BR.set {w : World} {g cap : Nat} {l : List UInt8} (h : BR w g l cap) {i : Nat} (c : UInt8) : BR (w.setCell ⟨g, i, none⟩ (byteVal c)) g (l.set i c) cap := by
  obtain ⟨cur, fr, h1, h2, h3, h4, h5⟩ := h
  refine ⟨cur.setIfInBounds i (byteVal c), fr, ?_, ?_, by simpa using h3, by simpa using h4, by simpa using h5⟩
  · rw [setCell_eq_setRow w g i cur _ fr _ h1]; exact setRow_heap w g _ _ _ _ h1
  · rw [Array.toList_setIfInBounds, List.length_set, List.take_set, h2, List.map_set]
theorem BR.part {w : World} {g cap : Nat} {l : List UInt8} (h : BR w g l cap) (k m c : Nat) (hkm : k + m ≤ l.length) :
    (convert 22 9 (.slice (some ⟨g, k, none⟩) m c)).run Try.prog w = .ok (.string (str ((l.drop k).take m))) w := by
  have hl : ((l.drop k).take m).length = m := by simp; omega
  have := run_convert_bytes_back (P := Try.prog) w 22 9 5 ⟨g, k, none⟩ c ((l.drop k).take m) Try.underlying22 Try.underlying5 Try.underlying9 (by
    intro j hj
    rw [hl] at hj
    have h2 := h.cell (i := k + j) (by omega)
    have e : (⟨g, k, none⟩ : Addr).add j = ⟨g, k + j, none⟩ := by unfold Addr.add; split <;> simp_all
    rw [e, h2]
    simp [byteVal])
  rw [hl] at this
  exact this
theorem BR.new (w : World) (s : ByteArray) :
    ∃ cap, (convert 9 22 (.string s)).run Try.prog w = .ok (.slice (some ⟨w.heap.size, 0, none⟩) s.size cap) (w.drew.alloc (.cells (bytesRow s cap) 5 ((bytesRow s cap).size, (bytesRow s cap).size + 1))) ∧
      BR (w.drew.alloc (.cells (bytesRow s cap) 5 ((bytesRow s cap).size, (bytesRow s cap).size + 1))) w.heap.size s.data.toList cap := by
  refine ⟨_, run_bytes_of_string w 9 22 5 s Try.underlying9 Try.underlying22 Try.underlying5, ?_⟩
  have hc : s.size ≤ grownCap w s.size 0 5 := grownCap_ge _ _ _ _
  have hsz : s.data.toList.length = s.size := by simp
  refine ⟨_, _, heap_alloc_new w.drew _, ?_, ?_, Nat.le_refl _, ?_⟩
  · rw [hsz]
    unfold bytesRow
    rw [Array.toList_append, List.take_append_of_le_length (by simp), List.take_of_length_le (by simp)]
    simp [byteVal]
  · rw [hsz]; unfold bytesRow; simp
  · unfold bytesRow; simp; omega
theorem store_marked (P : Program) (g o : Nat) (t : TypeId) (fr : Nat × Nat) : ∀ (vs : List Value) (i : Nat) (cur : Array Value) (w : World), w.heap[g]? = some (.cells cur t fr) → cur.size ≤ fr.1 → o + i + vs.length ≤ cur.size → (∀ v ∈ vs, v.oneCell' = true) →
    (storeCells ⟨g, o, none⟩ vs i).run P w = .ok () (w.setRow g (cur.toList.take (o + i) ++ vs ++ cur.toList.drop (o + i + vs.length)).toArray)
  | [], i, cur, w, hg, _, _, _ => by
    simp only [storeCells, List.append_nil, List.length_nil, Nat.add_zero, List.take_append_drop, Array.toArray_toList]
    rw [setRow_self w g cur t fr hg]
    rfl
  | v :: rest, i, cur, w, hg, hf, hl, h1 => by
    have hi : o + i < cur.size := by simp at hl; omega
    have hadd : (⟨g, o, none⟩ : Addr).add i = ⟨g, o + i, none⟩ := by unfold Addr.add; split <;> simp_all
    have hcell : w.cell? ⟨g, o + i, none⟩ = some cur[o + i] := by simp [World.cell?, hg, hi]
    have hfro : w.frozen? ⟨g, o + i, none⟩ = false := by simp [World.frozen?, hg]; omega
    have hst : (store ((⟨g, o, none⟩ : Addr).add i) v).run P w = .ok () (w.setRow g (cur.setIfInBounds (o + i) v)) := by
      rw [hadd, run_store P w _ v _ (h1 v (by simp)), hcell]
      simp [hfro, setCell_eq_setRow w g (o + i) cur t fr v hg]
    have ih := store_marked P g o t fr rest (i + 1) (cur.setIfInBounds (o + i) v) (w.setRow g (cur.setIfInBounds (o + i) v)) (setRow_heap w g cur _ t _ hg) (by simpa using hf) (by simp at hl ⊢; omega) (fun x hx => h1 x (by simp [hx]))
    simp only [storeCells, Sem.run_bind, hst, Result.andThen_ok, ih, setRow_setRow]
    congr 3
    have e := list_seg_step cur.toList (o + i) v rest (by simp at hl ⊢; omega)
    simpa [Array.toList_setIfInBounds, Nat.add_assoc] using e
theorem BR.copy {w : World} {g cap : Nat} {l : List UInt8} (h : BR w g l cap) (s : List UInt8) (o dLen dCap : Nat) (hle : s.length ≤ dLen) (hfit : o + s.length ≤ l.length) :
    ∃ C, (∀ ty, (Builtin.copy_ #[22, 9] ty #[.slice (some ⟨g, o, none⟩) dLen dCap, .string (str s)]).run Try.prog w = .ok (goInt s.length) (w.setRow g C)) ∧ BR (w.setRow g C) g (l.take o ++ s ++ l.drop (o + s.length)) cap := by
  obtain ⟨cur, fr, h1, h2, h3, h4, h5⟩ := h
  have hss : (str s).size = s.length := str_size s
  have hsl : (str s).data.toList = s := str_list s
  have hst := store_marked Try.prog g o 5 fr (s.map byteVal) 0 cur w h1 h4 (by simp; omega) (by intro v hv; simp only [List.mem_map] at hv; obtain ⟨b, _, rfl⟩ := hv; rfl)
  have hmin : Nat.min s.length dLen = s.length := Nat.min_eq_left hle
  refine ⟨_, fun ty => ?_, cur.toList.take o ++ s.map byteVal ++ cur.toList.drop (o + s.length) |>.toArray, fr, setRow_heap w g _ _ _ _ h1, ?_, ?_, ?_, ?_⟩
  · have hi : (Try.prog.info? 5).map (fun i => (i.zero, i.size, i.bytes)) = some (some (.int .u8 0), 1, 1) := by kernel_rfl
    have htk : List.take s.length (List.map (fun b : UInt8 => Value.int IntKind.u8 (b.toNat : Int)) (str s).data.toList) = s.map byteVal := by
      rw [hsl, List.take_of_length_le (by simp)]; rfl
    simp only [Nat.add_zero] at hst
    cases hq : Try.prog.info? 5 with
    | none => simp [hq] at hi
    | some i =>
      simp [Builtin.copy_, run_underlying Try.underlying22, Builtin.lenOf, Builtin.firstCells, sizeOf, typeInfo, hq, hss, hmin]
      rw [htk, hst]
      simp [Result.andThen]
  · have e : (l.take o ++ s ++ l.drop (o + s.length)).length = l.length := by simp; omega
    have e2 : cur.toList.take o = (l.take o).map byteVal := by
      have := congrArg (List.take o) h2
      rw [List.take_take, Nat.min_eq_left (by omega)] at this
      rw [this, List.map_take]
    rw [e, List.toList_toArray, List.append_assoc, List.take_append, List.take_append]
    rw [List.take_of_length_le (l := cur.toList.take o) (by simp; omega), List.take_of_length_le (l := s.map byteVal) (by simp; omega), e2]
    rw [List.map_append, List.map_append, List.append_assoc]
    congr 2
    have := congrArg (List.drop (o + s.length)) h2
    rw [List.drop_take] at this
    rw [List.map_drop, ← this]
    congr 1
    simp; omega
  · simp; omega
  · simp; omega
  · simp; omega
end Go.Proofs.Ytbeojfhakmbacaa
