/- Contracts: receivers in the laws: laid. -/
import Derived.Test.YtbeojfhakmbacaaReC
namespace Go.Proofs.Ytbeojfhakmbacaa
open Go.RowKit

theorem own_set {w : World} {B e size n : Nat} {v : Value} {xs : List Value} (h : w.ownsRow B e size v n xs) {p : Addr} (hp : p.block < B) (u : Value) : (w.setCell p u).ownsRow B e size v n xs := by
  obtain ⟨h1, h2⟩ := h
  refine ⟨h1, ?_⟩
  rcases h2 with h2 | ⟨g, cap, cur, hv, hb, hh, h3⟩
  · exact Or.inl h2
  · exact Or.inr ⟨g, cap, cur, hv, hb, (Below.heap_setCell w p u g (by omega)).trans hh, h3⟩

set_option maxHeartbeats 4000000 in
theorem toReceiver_c (m : Int) (A : Option Addr) (c : Nat) (l : List Hd) (w : World) (h1 : Hid (Reads w w.heap.size 10 A l.length (hds l))) (b1 : l.length ≤ 4000000)  : Calls Try.prog 30 #[.agg #[.int .i64 m, .slice A l.length c]] w (GivesS w 42 10 l.length (hds l) (fun v => .agg #[.int .i64 m, v])) := by
  go_enter Try.func30, Try.ntmps30
  go_wp2_with fail
  refine (toHeardS_c A c l _ (hide (by refine reads_below h1.out ?_; go_grown)) b1).mono ?_
  rintro e w1 ⟨A1, c1, rfl, ho, hb⟩
  have hT : w1.cell? ⟨w.heap.size, 0, none⟩ = some (.int .i64 m) ∧ w1.cell? ⟨w.heap.size, 1, none⟩ = some (.slice A l.length c) ∧ w1.cell? ⟨w.heap.size + 1, 0, none⟩ = some (.int .i64 0) ∧ w1.cell? ⟨w.heap.size + 1, 1, none⟩ = some (.slice none 0 0) ∧ (w.heap.size + 1 < w1.heap.size ∧ ∀ i, w1.frozen? ⟨w.heap.size + 1, i, none⟩ = false) ∧ w1.cell? ⟨w.heap.size + 2, 0, none⟩ = some (.int .i64 m) ∧ w1.cell? ⟨w.heap.size + 2, 1, none⟩ = some (.slice none 0 0) ∧ (w.heap.size + 2 < w1.heap.size ∧ ∀ i, w1.frozen? ⟨w.heap.size + 2, i, none⟩ = false) ∧ Below w.heap.size w w1 := (fun W h hb => ⟨keep_cell (hb) h.1, keep_cell (hb) h.2.1, keep_cell (hb) h.2.2.1, keep_cell (hb) h.2.2.2.1, keep_fre (hb) h.2.2.2.2.1, keep_cell (hb) h.2.2.2.2.2.1, keep_cell (hb) h.2.2.2.2.2.2.1, keep_fre (hb) h.2.2.2.2.2.2.2.1, below_via h.2.2.2.2.2.2.2.2 (hb)⟩ : ∀ W : World, (W.cell? ⟨w.heap.size, 0, none⟩ = some (.int .i64 m) ∧ W.cell? ⟨w.heap.size, 1, none⟩ = some (.slice A l.length c) ∧ W.cell? ⟨w.heap.size + 1, 0, none⟩ = some (.int .i64 0) ∧ W.cell? ⟨w.heap.size + 1, 1, none⟩ = some (.slice none 0 0) ∧ (w.heap.size + 1 < W.heap.size ∧ ∀ i, W.frozen? ⟨w.heap.size + 1, i, none⟩ = false) ∧ W.cell? ⟨w.heap.size + 2, 0, none⟩ = some (.int .i64 m) ∧ W.cell? ⟨w.heap.size + 2, 1, none⟩ = some (.slice none 0 0) ∧ (w.heap.size + 2 < W.heap.size ∧ ∀ i, W.frozen? ⟨w.heap.size + 2, i, none⟩ = false) ∧ Below w.heap.size w W) → Below W.heap.size W w1 → (w1.cell? ⟨w.heap.size, 0, none⟩ = some (.int .i64 m) ∧ w1.cell? ⟨w.heap.size, 1, none⟩ = some (.slice A l.length c) ∧ w1.cell? ⟨w.heap.size + 1, 0, none⟩ = some (.int .i64 0) ∧ w1.cell? ⟨w.heap.size + 1, 1, none⟩ = some (.slice none 0 0) ∧ (w.heap.size + 1 < w1.heap.size ∧ ∀ i, w1.frozen? ⟨w.heap.size + 1, i, none⟩ = false) ∧ w1.cell? ⟨w.heap.size + 2, 0, none⟩ = some (.int .i64 m) ∧ w1.cell? ⟨w.heap.size + 2, 1, none⟩ = some (.slice none 0 0) ∧ (w.heap.size + 2 < w1.heap.size ∧ ∀ i, w1.frozen? ⟨w.heap.size + 2, i, none⟩ = false) ∧ Below w.heap.size w w1)) _ (by first | (with_reducible assumption) | (exact hS) | (exact ⟨hS.1, hS.2.1, hS.2.2.1, hS.2.2.2.1, hS.2.2.2.2.1, hS.2.2.2.2.2.1, hS.2.2.2.2.2.2.1, hS.2.2.2.2.2.2.2.1, (by go_grown)⟩) | (exact ⟨(by first | (with_reducible assumption) | (simp [go_sem]; done) | ((simp only [go_sem]); (with_reducible assumption)) | ((refine keep_cell ?_ (by with_reducible assumption)); go_grown; done) | (simp [go_sem, *]; done)), (by first | (with_reducible assumption) | (simp [go_sem]; done) | ((simp only [go_sem]); (with_reducible assumption)) | ((refine keep_cell ?_ (by with_reducible assumption)); go_grown; done) | (simp [go_sem, *]; done)), (by first | (with_reducible assumption) | (simp [go_sem]; done) | ((simp only [go_sem]); (with_reducible assumption)) | ((refine keep_cell ?_ (by with_reducible assumption)); go_grown; done) | (simp [go_sem, *]; done)), (by first | (with_reducible assumption) | (simp [go_sem]; done) | ((simp only [go_sem]); (with_reducible assumption)) | ((refine keep_cell ?_ (by with_reducible assumption)); go_grown; done) | (simp [go_sem, *]; done)), (by first | (with_reducible assumption) | (simp [go_sem]; done) | (refine keep_fre ?_ ⟨by with_reducible assumption, by with_reducible assumption⟩; go_grown; done) | (simp [go_sem, *]; done)), (by first | (with_reducible assumption) | (simp [go_sem]; done) | ((simp only [go_sem]); (with_reducible assumption)) | ((refine keep_cell ?_ (by with_reducible assumption)); go_grown; done) | (simp [go_sem, *]; done)), (by first | (with_reducible assumption) | (simp [go_sem]; done) | ((simp only [go_sem]); (with_reducible assumption)) | ((refine keep_cell ?_ (by with_reducible assumption)); go_grown; done) | (simp [go_sem, *]; done)), (by first | (with_reducible assumption) | (simp [go_sem]; done) | (refine keep_fre ?_ ⟨by with_reducible assumption, by with_reducible assumption⟩; go_grown; done) | (simp [go_sem, *]; done)), (by go_grown)⟩)) hb
  clear h1
  have hS := hT
  clear hT
  have HO := hide ho
  clear ho
  clear hb
  have hB := hS.2.2.2.2.2.2.2.2
  have hzw : w.heap.size ≤ w1.heap.size := hB.size
  have hz1 : w.heap.size < w1.heap.size := World.block_lt_of_cell? w1 _ (hS.1)
  have hz2 : w.heap.size + 1 < w1.heap.size := World.block_lt_of_cell? w1 _ (hS.2.2.1)
  have hz3 : w.heap.size + 2 < w1.heap.size := World.block_lt_of_cell? w1 _ (hS.2.2.2.2.2.1)
  go_wp2
  refine bodyPost_ret (by simp [results, Try.results30, go_sem, cell_set_some, *]; try rfl) rfl ?_
  have h3 : w1.ownsRow (w.heap.size + 3) 42 10 (.slice A1 l.length c1) l.length (hds l) := own_mono HO.out (by simp)
  refine ⟨A1, c1, rfl, own_mono ?_ (show w.heap.size ≤ w.heap.size + 3 by omega), by go_grown⟩
  repeat (refine own_set ?_ (by simp) _)
  exact h3

theorem szHeardS_c (A : Option Addr) (n c : Nat) (k : Int) (b1 : n ≤ 9223372036854775807) (b2 : 0 ≤ k) (b3 : k ≤ 1048576) (w : World) : Calls Try.prog 79 #[.slice A n c, .int .i64 k] w fun e w' => e = .returned (.int .i64 (if k < n then -1 else k - n)) ∧ w = w' := by
  by_cases h : k < n
  all_goals
    go_enter Try.func79, Try.ntmps79
    go_wp2
    all_goals (go_returns; exact ⟨ret_eq (by simp [h]), rfl⟩)

theorem szReceiver_c (m : Int) (A : Option Addr) (n c : Nat) (k : Int) (b1 : n ≤ 9223372036854775807) (b2 : 0 ≤ k) (b3 : k ≤ 1048576) (w : World) : Calls Try.prog 29 #[.agg #[.int .i64 m, .slice A n c], .int .i64 k] w (Gives w (.int .i64 (if k < n then -1 else k - n))) := by
  by_cases h : k < n
  all_goals
    go_enter Try.func29, Try.ntmps29
    go_wp2_with (first | (go_at_call 79; refine (szHeardS_c _ _ _ _ b1 b2 b3 _).mono ?_; rintro e w1 ⟨rfl, rfl⟩))
    all_goals (go_returns; exact ⟨ret_eq (by simp [h]), by go_grown⟩)
end Go.Proofs.Ytbeojfhakmbacaa
