/- What is proved here is used by the law below: contracts of functions and plain lemmas (part 8 of 17). Their conditions stand in each. -/
import Derived.Test.YtbeojfhakmbacaaFinRiaa
import Derived.Test.YtbeojfhakmbacaaFinRiab
import Derived.Test.YtbeojfhakmbacaaFinRiac
import Derived.Test.YtbeojfhakmbacaaFinRiad
import Derived.Test.YtbeojfhakmbacaaFinRiag
namespace Go.Proofs.Ytbeojfhakmbacaa
open Go.RowKit
set_option maxHeartbeats 8000000 in
theorem Receive_c (m : Int) (A : Option Addr) (c : Nat) (l : List Hd) (s : ByteArray) (t : Int) (w : World) (h1 : Hid (Reads w w.heap.size 10 A l.length (hds l))) (b1 : l.length ≤ 4000000) (hmax : s.size ≤ 1000000000000)  : Calls Try.prog 15 #[.agg #[.int .i64 m, .slice A l.length c], .string s, .int .i64 t] w (GivesS w 42 10 (RvV m l s t).length (hds (RvV m l s t)) (fun v => .tuple #[.agg #[.int .i64 (RvM m l s t), v], .bool (RvK m l s t)])) := by
  rcases ho : okR m l with _ | _
  · have HF := hide (Rv_bad (s := s) (t := t) ho)
    go_enter Try.func15, Try.ntmps15
    go_wp2_with (first | (go_at_call 18; refine (validRecv_c _ _ _ l _ (hide (by refine reads_below h1.out ?_; go_grown)) b1).mono ?_; rintro e w1 ⟨rfl, hb⟩; have hT : w1.cell? ⟨w.heap.size, 0, none⟩ = some (.int .i64 m) ∧ w1.cell? ⟨w.heap.size, 1, none⟩ = some (.slice A l.length c) ∧ w1.cell? ⟨w.heap.size + 1, 0, none⟩ = some (.int .i64 0) ∧ w1.cell? ⟨w.heap.size + 1, 1, none⟩ = some (.slice none 0 0) ∧ (w.heap.size + 1 < w1.heap.size ∧ ∀ i, w1.frozen? ⟨w.heap.size + 1, i, none⟩ = false) ∧ Below w.heap.size w w1 := (fun W h hb => ⟨keep_cell (hb) h.1, keep_cell (hb) h.2.1, keep_cell (hb) h.2.2.1, keep_cell (hb) h.2.2.2.1, keep_fre (hb) h.2.2.2.2.1, below_via h.2.2.2.2.2 (hb)⟩ : ∀ W : World, (W.cell? ⟨w.heap.size, 0, none⟩ = some (.int .i64 m) ∧ W.cell? ⟨w.heap.size, 1, none⟩ = some (.slice A l.length c) ∧ W.cell? ⟨w.heap.size + 1, 0, none⟩ = some (.int .i64 0) ∧ W.cell? ⟨w.heap.size + 1, 1, none⟩ = some (.slice none 0 0) ∧ (w.heap.size + 1 < W.heap.size ∧ ∀ i, W.frozen? ⟨w.heap.size + 1, i, none⟩ = false) ∧ Below w.heap.size w W) → Below W.heap.size W w1 → (w1.cell? ⟨w.heap.size, 0, none⟩ = some (.int .i64 m) ∧ w1.cell? ⟨w.heap.size, 1, none⟩ = some (.slice A l.length c) ∧ w1.cell? ⟨w.heap.size + 1, 0, none⟩ = some (.int .i64 0) ∧ w1.cell? ⟨w.heap.size + 1, 1, none⟩ = some (.slice none 0 0) ∧ (w.heap.size + 1 < w1.heap.size ∧ ∀ i, w1.frozen? ⟨w.heap.size + 1, i, none⟩ = false) ∧ Below w.heap.size w w1)) _ (by first | (with_reducible assumption) | (exact hS) | (exact ⟨hS.1, hS.2.1, hS.2.2.1, hS.2.2.2.1, hS.2.2.2.2.1, (by go_grown)⟩) | (exact ⟨(by first | (with_reducible assumption) | (simp [go_sem]; done) | ((simp only [go_sem]); (with_reducible assumption)) | ((refine keep_cell ?_ (by with_reducible assumption)); go_grown; done) | (simp [go_sem, *]; done)), (by first | (with_reducible assumption) | (simp [go_sem]; done) | ((simp only [go_sem]); (with_reducible assumption)) | ((refine keep_cell ?_ (by with_reducible assumption)); go_grown; done) | (simp [go_sem, *]; done)), (by first | (with_reducible assumption) | (simp [go_sem]; done) | ((simp only [go_sem]); (with_reducible assumption)) | ((refine keep_cell ?_ (by with_reducible assumption)); go_grown; done) | (simp [go_sem, *]; done)), (by first | (with_reducible assumption) | (simp [go_sem]; done) | ((simp only [go_sem]); (with_reducible assumption)) | ((refine keep_cell ?_ (by with_reducible assumption)); go_grown; done) | (simp [go_sem, *]; done)), (by first | (with_reducible assumption) | (simp [go_sem]; done) | (refine keep_fre ?_ ⟨by with_reducible assumption, by with_reducible assumption⟩; go_grown; done) | (simp [go_sem, *]; done)), (by go_grown)⟩)) hb; (try clear hS); have hS := hT; clear hT; have hB := hS.2.2.2.2.2; have hzw : w.heap.size ≤ w1.heap.size := hB.size; have hz1 : w.heap.size < w1.heap.size := World.block_lt_of_cell? w1 _ (hS.1); have hz2 : w.heap.size + 1 < w1.heap.size := World.block_lt_of_cell? w1 _ (hS.2.2.1); clear hb))
    refine bodyPost_ret (by simp [results, Try.results15, go_sem, cell_set_some, *]; try rfl) rfl ?_
    rw [HF.out.1, HF.out.2.1, HF.out.2.2]
    exact ⟨none, 0, rfl, World.ownsRow_nil _ _ _ _, by go_grown⟩
  have HF := hide (Rv_ok (s := s) (t := t) ho)
  rw [HF.out.1, HF.out.2.1, HF.out.2.2]
  go_enter Try.func15, Try.ntmps15
  go_wp2_with (first | (go_at_call 18; refine (validRecv_c _ _ _ l _ (hide (by refine reads_below h1.out ?_; go_grown)) b1).mono ?_; rintro e w1 ⟨rfl, hb⟩; have hT : w1.cell? ⟨w.heap.size, 0, none⟩ = some (.int .i64 m) ∧ w1.cell? ⟨w.heap.size, 1, none⟩ = some (.slice A l.length c) ∧ w1.cell? ⟨w.heap.size + 1, 0, none⟩ = some (.int .i64 0) ∧ w1.cell? ⟨w.heap.size + 1, 1, none⟩ = some (.slice none 0 0) ∧ (w.heap.size + 1 < w1.heap.size ∧ ∀ i, w1.frozen? ⟨w.heap.size + 1, i, none⟩ = false) ∧ Below w.heap.size w w1 := (fun W h hb => ⟨keep_cell (hb) h.1, keep_cell (hb) h.2.1, keep_cell (hb) h.2.2.1, keep_cell (hb) h.2.2.2.1, keep_fre (hb) h.2.2.2.2.1, below_via h.2.2.2.2.2 (hb)⟩ : ∀ W : World, (W.cell? ⟨w.heap.size, 0, none⟩ = some (.int .i64 m) ∧ W.cell? ⟨w.heap.size, 1, none⟩ = some (.slice A l.length c) ∧ W.cell? ⟨w.heap.size + 1, 0, none⟩ = some (.int .i64 0) ∧ W.cell? ⟨w.heap.size + 1, 1, none⟩ = some (.slice none 0 0) ∧ (w.heap.size + 1 < W.heap.size ∧ ∀ i, W.frozen? ⟨w.heap.size + 1, i, none⟩ = false) ∧ Below w.heap.size w W) → Below W.heap.size W w1 → (w1.cell? ⟨w.heap.size, 0, none⟩ = some (.int .i64 m) ∧ w1.cell? ⟨w.heap.size, 1, none⟩ = some (.slice A l.length c) ∧ w1.cell? ⟨w.heap.size + 1, 0, none⟩ = some (.int .i64 0) ∧ w1.cell? ⟨w.heap.size + 1, 1, none⟩ = some (.slice none 0 0) ∧ (w.heap.size + 1 < w1.heap.size ∧ ∀ i, w1.frozen? ⟨w.heap.size + 1, i, none⟩ = false) ∧ Below w.heap.size w w1)) _ (by first | (with_reducible assumption) | (exact hS) | (exact ⟨hS.1, hS.2.1, hS.2.2.1, hS.2.2.2.1, hS.2.2.2.2.1, (by go_grown)⟩) | (exact ⟨(by first | (with_reducible assumption) | (simp [go_sem]; done) | ((simp only [go_sem]); (with_reducible assumption)) | ((refine keep_cell ?_ (by with_reducible assumption)); go_grown; done) | (simp [go_sem, *]; done)), (by first | (with_reducible assumption) | (simp [go_sem]; done) | ((simp only [go_sem]); (with_reducible assumption)) | ((refine keep_cell ?_ (by with_reducible assumption)); go_grown; done) | (simp [go_sem, *]; done)), (by first | (with_reducible assumption) | (simp [go_sem]; done) | ((simp only [go_sem]); (with_reducible assumption)) | ((refine keep_cell ?_ (by with_reducible assumption)); go_grown; done) | (simp [go_sem, *]; done)), (by first | (with_reducible assumption) | (simp [go_sem]; done) | ((simp only [go_sem]); (with_reducible assumption)) | ((refine keep_cell ?_ (by with_reducible assumption)); go_grown; done) | (simp [go_sem, *]; done)), (by first | (with_reducible assumption) | (simp [go_sem]; done) | (refine keep_fre ?_ ⟨by with_reducible assumption, by with_reducible assumption⟩; go_grown; done) | (simp [go_sem, *]; done)), (by go_grown)⟩)) hb; (try clear hS); have hS := hT; clear hT; have hB := hS.2.2.2.2.2; have hzw : w.heap.size ≤ w1.heap.size := hB.size; have hz1 : w.heap.size < w1.heap.size := World.block_lt_of_cell? w1 _ (hS.1); have hz2 : w.heap.size + 1 < w1.heap.size := World.block_lt_of_cell? w1 _ (hS.2.2.1); clear hb) | (go_at_call 56; refine (received_c m A c l s t _ (hide (by refine reads_below h1.out ?_; go_grown)) b1 ho hmax).mono ?_; rintro e w2 ⟨B, d, rfl, hown, hb⟩; have hT : w2.cell? ⟨w.heap.size, 0, none⟩ = some (.int .i64 m) ∧ w2.cell? ⟨w.heap.size, 1, none⟩ = some (.slice A l.length c) ∧ w2.cell? ⟨w.heap.size + 1, 0, none⟩ = some (.int .i64 0) ∧ w2.cell? ⟨w.heap.size + 1, 1, none⟩ = some (.slice none 0 0) ∧ (w.heap.size + 1 < w2.heap.size ∧ ∀ i, w2.frozen? ⟨w.heap.size + 1, i, none⟩ = false) ∧ Below w.heap.size w w2 := (fun W h hb => ⟨keep_cell (hb) h.1, keep_cell (hb) h.2.1, keep_cell (hb) h.2.2.1, keep_cell (hb) h.2.2.2.1, keep_fre (hb) h.2.2.2.2.1, below_via h.2.2.2.2.2 (hb)⟩ : ∀ W : World, (W.cell? ⟨w.heap.size, 0, none⟩ = some (.int .i64 m) ∧ W.cell? ⟨w.heap.size, 1, none⟩ = some (.slice A l.length c) ∧ W.cell? ⟨w.heap.size + 1, 0, none⟩ = some (.int .i64 0) ∧ W.cell? ⟨w.heap.size + 1, 1, none⟩ = some (.slice none 0 0) ∧ (w.heap.size + 1 < W.heap.size ∧ ∀ i, W.frozen? ⟨w.heap.size + 1, i, none⟩ = false) ∧ Below w.heap.size w W) → Below W.heap.size W w2 → (w2.cell? ⟨w.heap.size, 0, none⟩ = some (.int .i64 m) ∧ w2.cell? ⟨w.heap.size, 1, none⟩ = some (.slice A l.length c) ∧ w2.cell? ⟨w.heap.size + 1, 0, none⟩ = some (.int .i64 0) ∧ w2.cell? ⟨w.heap.size + 1, 1, none⟩ = some (.slice none 0 0) ∧ (w.heap.size + 1 < w2.heap.size ∧ ∀ i, w2.frozen? ⟨w.heap.size + 1, i, none⟩ = false) ∧ Below w.heap.size w w2)) _ (by first | (with_reducible assumption) | (exact hS) | (exact ⟨hS.1, hS.2.1, hS.2.2.1, hS.2.2.2.1, hS.2.2.2.2.1, (by go_grown)⟩) | (exact ⟨(by first | (with_reducible assumption) | (simp [go_sem]; done) | ((simp only [go_sem]); (with_reducible assumption)) | ((refine keep_cell ?_ (by with_reducible assumption)); go_grown; done) | (simp [go_sem, *]; done)), (by first | (with_reducible assumption) | (simp [go_sem]; done) | ((simp only [go_sem]); (with_reducible assumption)) | ((refine keep_cell ?_ (by with_reducible assumption)); go_grown; done) | (simp [go_sem, *]; done)), (by first | (with_reducible assumption) | (simp [go_sem]; done) | ((simp only [go_sem]); (with_reducible assumption)) | ((refine keep_cell ?_ (by with_reducible assumption)); go_grown; done) | (simp [go_sem, *]; done)), (by first | (with_reducible assumption) | (simp [go_sem]; done) | ((simp only [go_sem]); (with_reducible assumption)) | ((refine keep_cell ?_ (by with_reducible assumption)); go_grown; done) | (simp [go_sem, *]; done)), (by first | (with_reducible assumption) | (simp [go_sem]; done) | (refine keep_fre ?_ ⟨by with_reducible assumption, by with_reducible assumption⟩; go_grown; done) | (simp [go_sem, *]; done)), (by go_grown)⟩)) hb; (try clear hS); have hS := hT; clear hT; have hB := hS.2.2.2.2.2; have hzw : w.heap.size ≤ w2.heap.size := hB.size; have hz1 : w.heap.size < w2.heap.size := World.block_lt_of_cell? w2 _ (hS.1); have hz2 : w.heap.size + 1 < w2.heap.size := World.block_lt_of_cell? w2 _ (hS.2.2.1); clear hb))
  refine bodyPost_ret (by simp [results, Try.results15, go_sem, cell_set_some, *]; try rfl) rfl ?_
  refine ⟨B, d, rfl, own_mono ?_ (show w.heap.size ≤ w1.heap.size by omega), by go_grown⟩
  repeat (refine own_set ?_ (by first | (simp; done) | (simp; omega)) _)
  exact hown
end Go.Proofs.Ytbeojfhakmbacaa
namespace Go.Proofs.Ytbeojfhakmbacaa
open Go.RowKit
theorem sc2 {w : World} {g i b j : Nat} {u : Value} (v : Value) (h : b ≠ g) (q : w.cell? ⟨b, j, none⟩ = some u) : (w.setCell ⟨g, i, none⟩ v).cell? ⟨b, j, none⟩ = some u := by
  rw [World.cell?_setCell_other _ _ _ _ (by intro e; injection e with e1; exact h e1.symm)]; exact q
theorem sf2 {w : World} {p : Addr} {b : Nat} (v : Value) (q : b < w.heap.size ∧ ∀ i, w.frozen? ⟨b, i, none⟩ = false) : b < (w.setCell p v).heap.size ∧ ∀ i, (w.setCell p v).frozen? ⟨b, i, none⟩ = false := ⟨by simpa using q.1, fun i => by simpa using q.2 i⟩
theorem hds_one2 (l : List Hd) : ∀ u ∈ hds l, u.oneCell' = true := by
  intro u hu
  unfold hds at hu
  obtain ⟨h, _, hm⟩ := List.mem_flatMap.1 hu
  simp only [hdc, List.mem_cons, List.not_mem_nil, or_false] at hm
  rcases hm with rfl | rfl | rfl | rfl | rfl | rfl | rfl | rfl | rfl | rfl <;> rfl
theorem reads_nn2 {w : World} {B sz n : Nat} {A : Option Addr} {xs : List Value} (h : Reads w B sz A n xs) (hA : A = none) : n = 0 := Decidable.byContradiction fun hn => by
  obtain ⟨ad, e, _⟩ := h.2 (by omega)
  rw [hA] at e
  cases e
theorem row_cell2 {w : World} {base g n c k : Nat} {L : List Hd} (h : w.ownsRow base 42 10 (.slice (some ⟨g, 0, none⟩) n c) n (hds L)) (hn : n = L.length) (hk : k < L.length) {j : Nat} (hj : j < 10) {v : Value} (hv : (hdc (hx L k))[j]? = some v) : w.cell? ⟨g, k * 10 + j, none⟩ = some v := by
  rw [h.cellAt (k * 10 + j) (by omega), hds_at L k j hk hj]; exact hv
set_option maxHeartbeats 4000000 in
theorem l9Own_c (m : Int) (A : Option Addr) (c : Nat) (l : List Hd) (t : Int) (w : World) (h1 : Hid (Reads w w.heap.size 10 A l.length (hds l))) (b1 : l.length ≤ 4000000)  : Calls Try.prog 87 #[.agg #[.int .i64 m, .slice A l.length c], .int .i64 t] w (GivesS w 42 10 l.length (hds l) (fun v => .agg #[.int .i64 t, v])) := by
  obtain ⟨i0, hi0, iz0, iy0, ix0⟩ := info_parts infoHd
  go_enter Try.func87, Try.ntmps87
  have hO0 := own_empty (e := 42) (size := 10) (base := w.heap.size + 2) (H := w.heap.size + 2) ((w.alloc (.cells #[.int .i64 m, .slice A l.length c] 26)).alloc (.cells #[.int .i64 0, .slice none 0 0] 26)) (by simp) (by omega)
  go_wp2_with (first | (at_builtin; refine wpList_append_any rfl _ _ 24 rfl (w.heap.size + 2) 42 i0 (hdV nHd) 10 80 Try.underlying24 hi0 iz0 iy0 ix0 rfl (by decide) _ 0 [] rfl hO0 w.heap.size _ l.length _ (hds l) rfl (h1.out.below (by go_grown)) (reads_nn2 h1.out) (hds_one2 l) (by unfold maxLen; omega) (by omega) (by first | (simp; done) | (simp; omega)) ?_; intro A3 c3 w3 hown hgrow; have hT : w3.cell? ⟨w.heap.size + 1, 0, none⟩ = some (.int .i64 0) ∧ w3.cell? ⟨w.heap.size + 1, 1, none⟩ = some (.slice none 0 0) ∧ (w.heap.size + 1 < w3.heap.size ∧ ∀ i, w3.frozen? ⟨w.heap.size + 1, i, none⟩ = false) ∧ Below w.heap.size w w3 := ⟨own_cell hO0 hgrow (by first | (simp [go_sem]; done) | (simp [go_sem, *]; done)) (by first | omega | (simp; done) | (simp; omega)), own_cell hO0 hgrow (by first | (simp [go_sem]; done) | (simp [go_sem, *]; done)) (by first | omega | (simp; done) | (simp; omega)), own_fre hO0 hgrow ⟨by simp, by simp [go_sem]⟩ (by omega), own_grown (a := w) (B := w.heap.size) hO0 hgrow (by go_grown) (by first | omega | (simp; omega)) (by omega)⟩; have hS := hT; clear hT; have hB := hS.2.2.2; have hzw : w.heap.size ≤ w3.heap.size := hB.size; rw [Nat.zero_add, List.nil_append] at hown; rw [Nat.zero_add]))
  refine bodyPost_ret (by simp [results, Try.results87, go_sem, cell_set_some, *]; try rfl) rfl ?_
  refine ⟨A3, c3, rfl, own_mono ?_ (show w.heap.size ≤ w.heap.size + 2 by omega), by go_grown⟩
  repeat (refine own_set ?_ (by first | (simp; done) | (simp; omega)) _)
  exact hown
end Go.Proofs.Ytbeojfhakmbacaa
namespace Go.Proofs.Ytbeojfhakmbacaa
open Go Go.RowKit
theorem sl_front {A : Option Addr} {n c i : Nat} (hA : A = none ∨ ∃ g, A = some ⟨g, 0, none⟩) (hi : i ≤ n) (hn : n ≤ c) (W : World) : (Instr.sliceAt 24 (.slice A n c) none (some (.int .i64 (i : Int))) none).run Try.prog W = .ok (.slice A i c) W := by
  have h1 : (i : Int) ≤ (c : Int) := by omega
  by_cases hc : c = 0
  · obtain rfl : i = 0 := by omega
    subst hc
    rcases hA with rfl | ⟨g, rfl⟩ <;> simp [go_sem, Addr.add]
  · rcases hA with rfl | ⟨g, rfl⟩ <;> simp [go_sem, *, Addr.add]
theorem sl_back {A : Option Addr} {n c i : Nat} (hi : i ≤ n) (hn : n ≤ c) (W : World) : (Instr.sliceAt 24 (.slice A n c) (some (.int .i64 (i : Int))) none none).run Try.prog W = .ok (.slice (if c = i then A else A.map (·.add (i * 10))) (n - i) (c - i)) W := by
  have h1 : (i : Int) ≤ (n : Int) := by omega
  by_cases hc : c = i <;> simp [go_sem, *]
theorem rd_back {w : World} {B n c i : Nat} {A : Option Addr} {xs : List Value} (h : Reads w B 10 A n xs) (hi : i ≤ n) (hn : n ≤ c) : Reads w B 10 (if c = i then A else A.map (·.add (i * 10))) (n - i) (xs.drop (i * 10)) := by
  by_cases hin : i = n
  · subst hin
    have hl := h.1
    rw [show i - i = 0 from by omega, List.drop_eq_nil_of_le (by omega)]
    exact Reads.none_back _
  · obtain ⟨ad, e, _⟩ := h.2 (by omega)
    subst e
    rw [if_neg (by omega)]
    exact h.back (by omega)
theorem back_nn {n c i : Nat} {A : Option Addr} (hA : A = none → n = 0) : (if c = i then A else A.map (·.add (i * 10))) = none → n - i = 0 := by
  intro e
  split at e
  · have := hA e; omega
  · cases A with
    | none => have := hA rfl; omega
    | some a => simp at e
theorem own_addr {w : World} {base : Nat} {e : TypeId} {size : Nat} {A : Option Addr} {c n : Nat} {xs : List Value} (h : w.ownsRow base e size (.slice A n c) n xs) : A = none ∨ ∃ g, A = some ⟨g, 0, none⟩ := by
  rcases h.2 with ⟨h1, _⟩ | ⟨g, cap, cur, h1, _⟩
  · injection h1 with h1; exact .inl h1
  · injection h1 with h1; exact .inr ⟨g, h1⟩
def rsK (t A K D : Int) (l : List Hd) : Bool := okR t (rcL t A K D l)
def rsM (t A K D : Int) (l : List Hd) : Int := if rsK t A K D l = true then t else 0
def rsV (t A K D : Int) (l : List Hd) : List Hd := if rsK t A K D l = true then rcL t A K D l else []
theorem rs_no {t A K D : Int} {l : List Hd} (h : okR t (rcL t A K D l) = false) : rsK t A K D l = false ∧ rsM t A K D l = 0 ∧ rsV t A K D l = [] := ⟨h, by unfold rsM rsK; rw [h]; rfl, by unfold rsV rsK; rw [h]; rfl⟩
theorem rs_yes {t A K D : Int} {l : List Hd} (h : okR t (rcL t A K D l) = true) : rsK t A K D l = true ∧ rsM t A K D l = t ∧ rsV t A K D l = rcL t A K D l := ⟨h, by unfold rsM rsK; rw [if_pos h], by unfold rsV rsK; rw [if_pos h]⟩
theorem run_sl {ρ : Operand → Value} {o : Oper} {t : TypeId} {x : Operand} {lo hi : Option Operand} (ho : o.op = .slice t x lo hi none) {X : Value} {LO HI : Option Value} (hx : ρ x = X) (hlo : lo.map ρ = LO) (hhi : hi.map ρ = HI) {v : Value} {w : World} (h : (Instr.sliceAt t X LO HI none).run Try.prog w = .ok v w) : (execOp ρ o).run Try.prog w = .ok (.value v) w := by
  unfold execOp
  rw [ho]
  simp [h, hx, hlo, hhi, Sem.run_bind]
theorem reads_alloc (w : World) (xs : List Value) (e : TypeId) : Reads (w.alloc (.cells xs.toArray e)) (w.alloc (.cells xs.toArray e)).heap.size xs.length (some ⟨w.heap.size, 0, none⟩) 1 xs := by
  refine ⟨by simp, fun _ => ⟨_, rfl, by simp, fun k v hk => ?_⟩⟩
  cases k with
  | zero => simp [Addr.add, go_sem, hk]
  | succ k => simp [Addr.add, go_sem, hk]
theorem reads_gb {w w' : World} {sz n : Nat} {A : Option Addr} {xs : List Value} {r : Option Nat} (h : Reads w w.heap.size sz A n xs) (hg : w.grownBy w' r) (hA : ∀ a, A = some a → r ≠ some a.block) : Reads w' w'.heap.size sz A n xs := by
  refine ⟨h.1, fun hn => ?_⟩
  obtain ⟨ad, e, hb, hc⟩ := h.2 hn
  exact ⟨ad, e, Nat.lt_of_lt_of_le hb hg.size, fun k v hk => hg.cell (hc k v hk) (by rw [block_of_add]; exact fun e2 => hA ad e e2.symm)⟩
theorem hds_take : ∀ (l : List Hd) (k : Nat), (hds l).take (k * 10) = hds (l.take k)
  | [], k => by simp [hds]
  | p :: l, 0 => rfl
  | p :: l, k + 1 => by
    rw [hds_cons, List.take_succ_cons, hds_cons, ← hds_take l k, show (k + 1) * 10 = (hdc p).length + k * 10 from by rw [hdc_len]; omega, List.take_length_add_append]
theorem hds_drop : ∀ (l : List Hd) (k : Nat), (hds l).drop (k * 10) = hds (l.drop k)
  | [], k => by simp [hds]
  | p :: l, 0 => rfl
  | p :: l, k + 1 => by
    rw [hds_cons, List.drop_succ_cons, ← hds_drop l k, show (k + 1) * 10 = (hdc p).length + k * 10 from by rw [hdc_len]; omega, List.drop_length_add_append]
theorem bub_flat (l : List Hd) (A : Int) (i : Nat) : (hds l).take (i * 10) ++ hdc (nwH A) ++ (hds l).drop (i * 10) = hds (bubL l A i) := by
  unfold bubL
  rw [hds_take, hds_drop, hds_app, hds_cons, List.append_assoc]
theorem sc_off {w : World} {g i j : Nat} {u v : Value} (h : j ≠ i) (q : w.cell? ⟨g, j, none⟩ = some u) : (w.setCell ⟨g, i, none⟩ v).cell? ⟨g, j, none⟩ = some u := by
  rw [World.cell?_setCell_other _ _ _ _ (by intro e; injection e with _ e1; exact h e1.symm)]; exact q
theorem sc_at {w : World} {p : Addr} {u v : Value} (q : w.cell? p = some u) : (w.setCell p v).cell? p = some v := cell_set_some (by rw [q]; rfl)
end Go.Proofs.Ytbeojfhakmbacaa
namespace Go.Proofs.Ytbeojfhakmbacaa
open Go
section
variable {P : Program} {ops : Array Oper} {eff : Oper → Bool} {ord : List Nat} {a0 : Act}
theorem cnt_pos {listed : Array Bool} {j : Nat} (h : listed.getD j true = false) : 1 ≤ listed.toList.count false := by
  have hlt : j < listed.size := by
    rcases Nat.lt_or_ge j listed.size with h1 | h1
    · exact h1
    · simp [Array.getD, Nat.not_lt.2 h1] at h
  have hv : listed[j] = false := by simpa [Array.getD, hlt] using h
  have hm : false ∈ listed.toList := by rw [← hv]; exact Array.mem_toList_iff.2 (Array.getElem_mem hlt)
  exact List.count_pos_iff.2 hm
theorem tail_any2 {ops : Array Oper} {Q : Exit → Act → World → Prop} {m : Nat} (hdn : ∀ (j : Nat) (oj : Oper), ops[j]? = some oj → ∀ e ∈ oj.after, Region.binds .any e = true → e.on < max m j)
    (hal : ∀ listed : Array Bool, listed.size = ops.size → Region.ready .any ops listed = [] → ∀ j, listed.getD j true = true) (ht : tailOk ops m = true) :
    ∀ (d fuel k : Nat) (listed : Array Bool) (a : Act) (w : World), k + d = ops.size → d ≤ fuel → m ≤ k → listed.size = ops.size →
      (∀ j, j < ops.size → (listed.getD j true = true ↔ j < k)) → wpList P ops Q (ops.toList.drop k) a w → wpAny P .any ops Q fuel listed a w := by
  have key : ∀ (k i : Nat) (listed : Array Bool), m ≤ k → listed.size = ops.size → (∀ j, j < ops.size → (listed.getD j true = true ↔ j < k)) → i ∈ Region.ready .any ops listed → i = k := by
    intro k i listed hm hs hl hi
    obtain ⟨hu, o, ho, he⟩ := ready_spec hi
    have hlt : i < ops.size := (Array.getElem?_eq_some_iff.1 ho).1
    have hki : ¬ i < k := fun h => by rw [(hl i hlt).2 h] at hu; cases hu
    rcases Nat.lt_or_ge k i with h | h
    · have h1 := below_listed (ops := ops) (listed := listed) (fun j oj hj hlj e hem hb => by
        have hjs : j < ops.size := (Array.getElem?_eq_some_iff.1 hj).1
        have hjk := (hl j hjs).1 hlj
        have h6 := hdn j oj hj e hem hb
        rw [getD_both (by omega)]
        exact (hl e.on (by omega)).2 (by omega)) hs ops.size i (fun oj hoj => by rw [ho] at hoj; cases hoj; exact he) k (tailOk_spec ht hlt (by omega) h)
      rw [getD_both (by omega)] at h1
      have := (hl k (by omega)).1 h1
      omega
    · omega
  have fin : ∀ (k : Nat) (listed : Array Bool) (a : Act) (w : World), k ≤ ops.size → listed.size = ops.size → (∀ j, j < ops.size → (listed.getD j true = true ↔ j < k)) →
      wpList P ops Q (ops.toList.drop k) a w → Region.ready .any ops listed = [] → Q .normal a w := by
    intro k listed a w hk hs hl hw hr
    have hall := hal listed hs hr
    have : k = ops.size := by
      rcases Nat.lt_or_ge k ops.size with h | h
      · have := (hl k h).1 (hall k)
        omega
      · omega
    subst this
    rw [List.drop_of_length_le (by simp)] at hw
    exact hw
  intro d
  induction d with
  | zero =>
    intro fuel k listed a w hk hf hm hs hl hw
    have hr : Region.ready .any ops listed = [] := by
      rcases hr : Region.ready .any ops listed with _ | ⟨i, r⟩
      · rfl
      · have h1 := key k i listed hm hs hl (by rw [hr]; simp)
        obtain ⟨_, o, ho, _⟩ := ready_spec (ops := ops) (listed := listed) (i := i) (by rw [hr]; simp)
        have := (Array.getElem?_eq_some_iff.1 ho).1
        omega
    have hq := fin k listed a w (by omega) hs hl hw hr
    cases fuel with
    | zero => exact ⟨hr, hq⟩
    | succ f => exact ⟨fun _ => hq, fun i hi => by rw [hr] at hi; cases hi⟩
  | succ d ih =>
    intro fuel k listed a w hk hf hm hs hl hw
    cases fuel with
    | zero => omega
    | succ f =>
      refine ⟨fun hr => fin k listed a w (by omega) hs hl hw hr, fun i hi => ?_⟩
      obtain rfl := key k i listed hm hs hl hi
      have hlt : i < ops.size := by omega
      have hlt' : i < ops.toList.length := by simpa using hlt
      rw [List.drop_eq_getElem_cons hlt'] at hw
      have hnext : ∀ (a' : Act) (w' : World), wpList P ops Q (ops.toList.drop (i + 1)) a' w' → wpAny P .any ops Q f (listed.setIfInBounds i true) a' w' := fun a' w' h =>
        ih f (i + 1) _ a' w' (by omega) (by omega) (by omega) (by simpa using hs) (fun j hj => by
          rw [getD_set (by omega)]
          by_cases hji : j = i
          · subst hji; simp
          · rw [if_neg hji, hl j hj]; omega) h
      unfold wpOp
      rw [Array.getElem?_eq_getElem hlt]
      unfold wpList at hw
      rw [Array.getElem_toList] at hw
      simp only []
      split
      · rename_i h1
        rw [if_pos h1] at hw
        exact hw.imp (Oper.wp_mono hnext) id
      · rename_i h1
        rw [if_neg h1] at hw
        exact hnext _ _ hw
theorem seq_any_tail (F : SeqFacts ops eff ord) {Q : Exit → Act → World → Prop} {m : Nat} (hdn : ∀ (j : Nat) (oj : Oper), ops[j]? = some oj → ∀ e ∈ oj.after, Region.binds .any e = true → e.on < max m j) (ht : tailOk ops m = true) (hm : m < ops.size) (hord : ∀ q j : Nat, ord[q]? = some j → (q < m ↔ j < m)) :
    ∀ (fuel : Nat) (ps : List (Oper × Value)) (rest : List Oper) (S : World → Prop) (listed : Array Bool) (a : Act) (w : World), Mid P ops eff ord a0 ps S listed a → ps.length + rest.length = m →
      (∀ q : Nat, ps.length ≤ q → q < m → ((ord[q]?).bind (ops[·]?)) = rest[q - ps.length]?) → S w → wpSeq P ops eff (fun a' w' => wpList P ops Q (ops.toList.drop m) a' w') rest S (stateAt a0 ps ps.length) w → listed.toList.count false + ops.size ≤ fuel →
      wpAny P .any ops Q fuel listed a w := by
  have adv : ∀ (rest : List Oper) (ps : List (Oper × Value)) (S : World → Prop) (listed : Array Bool) (a : Act) (w : World), Mid P ops eff ord a0 ps S listed a → ps.length + rest.length = m →
      (∀ q : Nat, ps.length ≤ q → q < m → ((ord[q]?).bind (ops[·]?)) = rest[q - ps.length]?) → wpSeq P ops eff (fun a' w' => wpList P ops Q (ops.toList.drop m) a' w') rest S (stateAt a0 ps ps.length) w →
      ∃ ps' rest', Mid P ops eff ord a0 ps' S listed a ∧ ps'.length + rest'.length = m ∧ (∀ q : Nat, ps'.length ≤ q → q < m → ((ord[q]?).bind (ops[·]?)) = rest'[q - ps'.length]?) ∧ wpSeq P ops eff (fun a' w' => wpList P ops Q (ops.toList.drop m) a' w') rest' S (stateAt a0 ps' ps'.length) w ∧ (rest' = [] ∨ ∃ o r, rest' = o :: r ∧ eff o = true) := by
    intro rest
    induction rest with
    | nil => intro ps S listed a w M hl hr hw; exact ⟨ps, [], M, hl, hr, hw, .inl rfl⟩
    | cons o rest ih =>
      intro ps S listed a w M hl hr hw
      simp only [List.length_cons] at hl
      cases hef : eff o with
      | true => exact ⟨ps, o :: rest, M, by simpa using hl, hr, hw, .inr ⟨o, rest, rfl, hef⟩⟩
      | false =>
        rcases hw with ⟨_, v, hst, hw⟩ | ⟨h, _⟩
        · have h0 := hr ps.length (Nat.le_refl _) (by omega)
          rw [Nat.sub_self] at h0
          simp only [List.getElem?_cons_zero] at h0
          obtain ⟨j, hj, ho⟩ := Option.bind_eq_some_iff.1 h0
          refine ih (ps ++ [(o, v)]) S listed a w (mid_more F M hj ho hef hst) (by simp only [List.length_append, List.length_singleton]; omega) (fun q hq hqm => ?_) ?_
          · simp only [List.length_append, List.length_singleton] at hq ⊢
            rw [hr q (by omega) hqm, show q - ps.length = (q - (ps.length + 1)) + 1 from by omega, List.getElem?_cons_succ]
          · rw [List.length_append, List.length_singleton, stateAt_last]
            exact hw
        · rw [hef] at h; cases h
  have last : ∀ {ps : List (Oper × Value)} {S : World → Prop} {listed : Array Bool} {a : Act}, Mid P ops eff ord a0 ps S listed a → ps.length ≤ m → listed.getD m true = false := by
    intro ps S listed a M hl
    obtain ⟨q, hq⟩ := List.getElem?_of_mem (F.mem m hm)
    have h1 := hord q m hq
    exact M.ahead q m (by omega) hq
  intro fuel
  induction fuel with
  | zero => intro ps rest S listed a w M hl hr hS hw hc; omega
  | succ fuel ih =>
    intro ps0 rest0 S listed a w M0 hl0 hr0 hS hw0 hc
    obtain ⟨ps, rest, M, hl, hr, hw, hnext⟩ := adv rest0 ps0 S listed a w M0 hl0 hr0 hw0
    have hmu := last M (by omega)
    refine ⟨fun hrd => ?_, fun j hjr => ?_⟩
    · have := seq_listed F M.size hrd m
      rw [hmu] at this; cases this
    obtain ⟨hu, o, ho, he⟩ := ready_spec hjr
    have hjl : j < ops.size := (Array.getElem?_eq_some_iff.1 ho).1
    obtain ⟨q, hq⟩ := List.getElem?_of_mem (F.mem j hjl)
    have hc1 := cnt_pos hu
    have hc' : (listed.setIfInBounds j true).toList.count false + ops.size ≤ fuel := by
      have := count_set (n := fuel - ops.size) hu (by omega)
      omega
    rcases Nat.lt_or_ge q ps.length with hlt | hge
    · unfold wpOp
      simp only [ho]
      have hp : ∃ x, ps[q]? = some x := ⟨_, List.getElem?_eq_getElem hlt⟩
      obtain ⟨⟨o', v⟩, hp⟩ := hp
      obtain ⟨j', hj', ho'⟩ := M.pss q o' v hp
      rw [hq] at hj'; cases hj'
      rw [ho] at ho'; cases ho'
      have hef : eff o = false := by
        cases hef : eff o with
        | false => rfl
        | true =>
          have := M.done q o v j hp hq hef
          rw [hu] at this; cases this
      have M' := mid_put F M hp hq hu he
      have hst := M.quiet q o v hp hef
      obtain ⟨e1, e2⟩ := mid_same F M (Nat.le_of_lt hlt) hq ho hu he
      rcases hst with ⟨h1, h2⟩ | ⟨h1, rfl⟩
      · rw [if_pos (by rw [e2]; exact h1)]
        refine .inl ?_
        unfold Oper.wp
        rw [e1, h2 w hS]
        exact ih ps rest S _ _ w M' hl hr hS hw hc'
      · rw [if_neg (by rw [e2, h1]; simp)]
        exact ih ps rest S _ _ w M' hl hr hS hw hc'
    · rcases Nat.lt_or_ge j m with hjm | hjm
      · have hqm : q < m := (hord q j hq).2 hjm
        unfold wpOp
        simp only [ho]
        have hql : q < ord.length := (List.getElem?_eq_some_iff.1 hq).1
        rcases hnext with rfl | ⟨o', r, rfl, hef⟩
        · have h0 := hr q hge hqm
          rw [hq] at h0
          simp [ho] at h0
        · simp only [List.length_cons] at hl
          have h0 := hr ps.length (Nat.le_refl _) (by omega)
          rw [Nat.sub_self] at h0
          simp only [List.getElem?_cons_zero] at h0
          obtain ⟨i, hi, hoi⟩ := Option.bind_eq_some_iff.1 h0
          have hqe : q = ps.length := by
            rcases Nat.lt_or_ge ps.length q with h | h
            · exfalso
              obtain ⟨j', oj', hj', hoj', _, _, hpair⟩ := F.at_ q hql
              rw [hq] at hj'; cases hj'
              obtain ⟨i', oi', hi', hoi', _, _, hbl⟩ := hpair ps.length h
              rw [hi] at hi'; cases hi'
              rw [hoi] at hoi'; cases hoi'
              have h5 := below_listed M.down M.size ops.size j (fun oj hoj => by rw [ho] at hoj; cases hoj; exact he) i (hbl hef)
              have hil : i < listed.size := by rw [M.size]; exact (Array.getElem?_eq_some_iff.1 hoi).1
              rw [getD_both hil, M.ahead ps.length i (Nat.le_refl _) hi] at h5
              cases h5
            · omega
          subst hqe
          rw [hq] at hi; cases hi
          rw [ho] at hoi; cases hoi
          rcases hw with ⟨h, _⟩ | ⟨_, hwant, hdo⟩
          · rw [hef] at h; cases h
          · obtain ⟨e1, e2⟩ := mid_same F M (Nat.le_refl _) hq ho hu he
            rw [if_pos (by rw [e2]; exact hwant)]
            refine .inl ?_
            rw [← e1] at hdo
            refine hdo.wp fun v w' ⟨S', hS', himp, hw'⟩ => ?_
            refine ih (ps ++ [(o, v)]) r S' _ _ w' (mid_deed F M hq ho hef he himp) (by simp only [List.length_append, List.length_singleton]; omega) (fun k hk hkm => ?_) hS' ?_ hc'
            · simp only [List.length_append, List.length_singleton] at hk ⊢
              rw [hr k (by omega) hkm, show k - ps.length = (k - (ps.length + 1)) + 1 from by omega, List.getElem?_cons_succ]
            · rw [List.length_append, List.length_singleton, stateAt_last]
              exact hw'
      · -- the tail: all ahead of it is listed
        have hall : ∀ i, i < m → listed.getD i true = true := fun i hi => by
          have h5 := below_listed M.down M.size ops.size j (fun oj hoj => by rw [ho] at hoj; cases hoj; exact he) i (tailOk_spec ht hjl hjm (by omega))
          rw [← getD_both (by rw [M.size]; omega)]
          exact h5
        have hpm : ps.length = m := by
          rcases Nat.lt_or_ge ps.length m with h | h
          · exfalso
            have hlo : ps.length < ord.length := by rw [F.len]; omega
            have hk := List.getElem?_eq_getElem hlo
            have h1 := M.ahead ps.length _ (Nat.le_refl _) hk
            rw [hall _ ((hord _ _ hk).1 h)] at h1
            cases h1
          · omega
        have hrest : rest = [] := List.eq_nil_of_length_eq_zero (by omega)
        subst hrest
        have ha : a = stateAt a0 ps ps.length := by
          obtain ⟨ta, da⟩ := a
          have e1 : ta = (stateAt a0 ps ps.length).tmps := Array.ext_getElem? fun t => M.slots t ps.length (Nat.le_refl _) fun p o v j hp hj hd => by
            have hpl := (List.getElem?_eq_some_iff.1 hp).1
            simp only [hall j ((hord p j hj).1 (by omega)), true_iff]
            exact hpl
          have e2 : da = (stateAt a0 ps ps.length).defers := M.defers.trans (stateAt_facts _ _ _).2.symm
          rw [e1, e2]
        have hw2 : wpList P ops Q (ops.toList.drop m) a w := by rw [ha]; exact hw
        have htl := tail_any2 (P := P) (Q := Q) hdn (fun L hs hr => seq_listed F hs hr) ht (ops.size - m) (fuel + 1) m listed a w (by omega) (by omega) (Nat.le_refl _) M.size (fun i hi => ⟨(fun h => by
          rcases Nat.lt_or_ge i m with h1 | h1
          · exact h1
          · exfalso
            obtain ⟨q2, hq2⟩ := List.getElem?_of_mem (F.mem i hi)
            have h2 := hord q2 i hq2
            have h3 := M.ahead q2 i (by omega) hq2
            rw [h] at h3; cases h3), (fun h => hall i h)⟩) hw2
        exact htl.2 j hjr
def tailChk (ops : Array Oper) (eff : Oper → Bool) (ord : List Nat) (m : Nat) : Bool :=
  seqChk ops eff ord && ((List.range ops.size).all fun j => match ops[j]? with | none => true | some oj => oj.after.toList.all fun e => !Region.binds .any e || decide (e.on < max m j)) && tailOk ops m && decide (m < ops.size) && (List.range ord.length).all fun q => match ord[q]? with | none => true | some j => decide (q < m) == decide (j < m)
theorem all_seq_tail {a : Act} {w : World} {Q : Exit → Act → World → Prop} (ord : List Nat) (m : Nat) (S : World → Prop) {ops : Array Oper} (hok : tailChk ops deed ord m = true) (hS : S w)
    (h : wpSeq P ops deed (fun a' w' => wpList P ops Q (ops.toList.drop m) a' w') (byNum ops.toList (ord.take m)) S a w) : RegAll P ops Q a w := fun L hL => by
  unfold tailChk at hok
  simp only [Bool.and_eq_true, decide_eq_true_eq] at hok
  obtain ⟨⟨⟨⟨h1, h2⟩, h3⟩, h4⟩, h5⟩ := hok
  have F := seqChk_spec h1
  have hdn : ∀ (j : Nat) (oj : Oper), ops[j]? = some oj → ∀ e ∈ oj.after, Region.binds .any e = true → e.on < max m j := fun j oj hj e he hb => by
    have hlt : j < ops.size := (Array.getElem?_eq_some_iff.1 hj).1
    have h6 := List.all_eq_true.1 h2 j (by simpa using hlt)
    rw [hj] at h6
    have h7 := List.all_eq_true.1 h6 e (by simpa using he)
    simpa [hb] using h7
  have hord : ∀ q j : Nat, ord[q]? = some j → (q < m ↔ j < m) := fun q j hq => by
    have hql := (List.getElem?_eq_some_iff.1 hq).1
    have h6 := List.all_eq_true.1 h5 q (by simpa using hql)
    rw [hq] at h6
    simpa using h6
  have hmem : ∀ i ∈ ord, i < ops.toList.length := fun i hi => by
    obtain ⟨q, hq⟩ := List.getElem?_of_mem hi
    obtain ⟨j, oj, hj, hoj, _⟩ := F.at_ q (List.getElem?_eq_some_iff.1 hq).1
    rw [hq] at hj; cases hj
    simpa using (Array.getElem?_eq_some_iff.1 hoj).1
  have hbn := byNum_at (l := ops.toList) (ord.take m) (fun i hi => hmem i (List.mem_of_mem_take hi))
  have hlm : (ord.take m).length = m := by rw [List.length_take, F.len]; omega
  have hbl : (byNum ops.toList (ord.take m)).length = m := by
    have key : ∀ l : List Nat, (∀ i ∈ l, i < ops.toList.length) → (byNum ops.toList l).length = l.length := by
      intro l
      induction l with
      | nil => intro _; rfl
      | cons i r ih =>
        intro hh
        have e : ops.toList[i]? = some (ops.toList[i]'(hh i List.mem_cons_self)) := List.getElem?_eq_getElem _
        unfold byNum
        rw [e]
        simp only [List.length_cons]
        rw [ih fun j hj => hh j (List.mem_cons_of_mem _ hj)]
    rw [key _ (fun i hi => hmem i (List.mem_of_mem_take hi)), hlm]
  refine all_of_any (ops.size + ops.size) L _ a w (seq_any_tail (a0 := a) F hdn h3 h4 hord _ [] (byNum ops.toList (ord.take m)) S _ a _ ?_ (by simpa using hbl) (fun q _ hqm => ?_) hS (by simpa [stateAt] using h) ?_) hL
  · refine ⟨by simp, by simp, fun j oj hj hl => ?_, rfl, rfl, fun q j _ hj => ?_, by simp, by simp, by simp, fun t k hk _ => ?_⟩
    · have hlt : j < ops.size := (Array.getElem?_eq_some_iff.1 hj).1
      simp [Array.getD, hlt] at hl
    · have hjl := hmem j (List.mem_of_getElem? hj)
      have hjl2 : j < ops.size := by simpa using hjl
      simp [Array.getD, hjl2]
    · simp [stateAt]
  · have h6 := hbn q
    rw [List.getElem?_take, if_pos hqm] at h6
    simpa using h6
  · have : (Array.replicate ops.size false).toList.count false ≤ ops.size := Nat.le_trans List.count_le_length (by simp)
    omega
theorem all_seq_tail_core {a : Act} {w : World} {Q : Exit → Act → World → Prop} (ord : List Nat) (m : Nat) (S : World → Prop) {l : List Oper} {ops' : Array Oper} (hc : Core l.toArray ops') (hok : tailChk ops' deed ord m = true) (hS : S w)
    (h : wpSeq P l.toArray deed (fun a' w' => wpList P l.toArray Q (l.drop m) a' w') (byNum l (ord.take m)) S a w) : RegAll P ops' Q a w :=
  all_seq_tail ord m S hok hS (by
    have hmap : ops'.toList.map strip = l.map strip := List.ext_getElem? fun k => by
      have := hc k
      simpa using this
    have e := core_wpList (P := P) (Q := Q) hc (l.drop m) (ops'.toList.drop m) (by rw [List.map_drop, List.map_drop, hmap])
    have h1 := core_wpSeq (P := P) hc deed_strip _ _ S a w (by have := byNum_core hc (ord.take m); simpa using this) h
    rw [e]
    exact h1)
end
end Go.Proofs.Ytbeojfhakmbacaa
namespace Go.Proofs.Ytbeojfhakmbacaa
open Go.RowKit
theorem ne_some {a b : Nat} (h : a ≠ b) : some a ≠ some b := fun e => h (Option.some.inj e)
theorem kf {w w1 : World} {b : Nat} (hb : Below w.heap.size w w1) (h : b < w.heap.size) (h2 : ∀ i, w.frozen? ⟨b, i, none⟩ = false) : b < w1.heap.size ∧ ∀ i, w1.frozen? ⟨b, i, none⟩ = false := keep_fre hb ⟨h, h2⟩
theorem gc {w w1 : World} {g b k : Nat} {u : Value} (hg : w.grownBy w1 (some g)) (h : w.cell? ⟨b, k, none⟩ = some u) (hne : b ≠ g) : w1.cell? ⟨b, k, none⟩ = some u := hg.cell h (ne_some hne)
section
variable {w w1 K : World} {b g k : Nat} {u v t : Value} {r : Option Nat}
section
variable (hw : w1 = (w.setCell ⟨b, 0, none⟩ u).setCell ⟨b, 1, none⟩ v)
include hw
end
end
theorem pa {α : Type _} (l : List α) (i : Nat) (a : α) : l.toArray.setIfInBounds i a = (l.set i a).toArray := List.setIfInBounds_toArray ..
end Go.Proofs.Ytbeojfhakmbacaa
namespace Go.Proofs.Ytbeojfhakmbacaa
open Go.RowKit
set_option maxHeartbeats 16000000 in
theorem l9Good_c (m : Int) (A : Option Addr) (c : Nat) (l : List Hd) (w : World) (h1 : Hid (Reads w w.heap.size 10 A l.length (hds l))) (b1 : l.length ≤ 4000000)  : Calls Try.prog 58 #[.agg #[.int .i64 m, .slice A l.length c]] w (Gives w (.bool (okR m l))) := by
  rcases hm : wi m 0 9999 with _ | _
  · have HF := hide (okR_min (l := l) hm)
    go_enter Try.func58, Try.ntmps58
    go_wp2_with (first | (go_at_call 59; refine (l9Minute_c _ _).mono ?_; rintro e w1 ⟨rfl, rfl⟩))
    go_returns
    exact ⟨ret_eq (by rw [HF.out]; simp), by go_grown⟩
  by_cases hsix : 6 < l.length
  · have HF := hide (okR_six (m := m) hsix)
    go_enter Try.func58, Try.ntmps58
    go_wp2_with (first | (go_at_call 59; refine (l9Minute_c _ _).mono ?_; rintro e w1 ⟨rfl, rfl⟩))
    go_returns
    exact ⟨ret_eq (by rw [HF.out]; simp), by go_grown⟩
  have hM := hide hm
  have h6 : l.length ≤ 6 := by omega
  go_enter Try.func58, Try.ntmps58
  go_wp2_with (first | (go_at_call 59; refine (l9Minute_c _ _).mono ?_; rintro e w1 ⟨rfl, rfl⟩))
  go_loopw [3] (fun iv wr => ∃ i : Nat, i ≤ l.length ∧ iv = .int .i64 i ∧ Hid (okN m l i) ∧ (wr.cell? ⟨w.heap.size, 0, none⟩ = some (.int .i64 m) ∧ wr.cell? ⟨w.heap.size, 1, none⟩ = some (.slice A l.length c) ∧ Below w.heap.size w wr)) (fun iv _ => l.length - (intOf iv).toNat)
  case atStart => exact ⟨0, by omega, rfl, hide okN_zero, by first | (with_reducible assumption) | (exact hS) | (exact ⟨hS.1, hS.2.1, (by go_grown)⟩) | (exact ⟨(by first | (with_reducible assumption) | (simp [go_sem]; done) | ((simp only [go_sem]); (with_reducible assumption)) | ((refine keep_cell ?_ (by with_reducible assumption)); go_grown; done) | (simp [go_sem, *]; done)), (by first | (with_reducible assumption) | (simp [go_sem]; done) | ((simp only [go_sem]); (with_reducible assumption)) | ((refine keep_cell ?_ (by with_reducible assumption)); go_grown; done) | (simp [go_sem, *]; done)), (by go_grown)⟩)⟩
  case round =>
    obtain ⟨i, hi, rfl, HN, hS⟩ := hrel
    have hS2 := hS
    obtain ⟨r0, r1, hB⟩ := hS2
    have hzw : w.heap.size ≤ wr.heap.size := hB.size
    have hz1 : w.heap.size < wr.heap.size := World.block_lt_of_cell? wr _ (hS.1)
    by_cases hlt : i < l.length
    rotate_left
    · obtain rfl : i = l.length := by omega
      have HF := hide (okR_yes hM.out h6 HN.out)
      go_wp2
      go_returns
      exact ⟨ret_eq (by rw [HF.out]; simp), by go_grown⟩
    obtain ⟨⟨a, ⟨eo, ea, eb⟩, et, ⟨oo, oa, ob⟩, ot, f⟩, he⟩ : ∃ q, hx l i = q := ⟨_, rfl⟩
    obtain ⟨a1, rfl, ekb, e0, e1, e2, e3, e4, e5, e6, e7, e8, e9⟩ := (h1.out.below hB).hd (k := i) (by omega) he
    have HE := hide he
    clear he
    have HO := hide (okH_eq (m := m) HE.out)
    by_cases hz : i = 0
    · have HZ := hide hz
      have hz0 : ¬ 0 < i := by omega
      clear hz
      rcases k1 : wi a 1 65535 with _ | _
      have HF := hide (okR_bad (m := m) hlt (fun h => by rw [HO.out] at h; simp [k1] at h))
      rotate_left
      rcases k2 : wi f 1 9999 with _ | _
      have HF := hide (okR_bad (m := m) hlt (fun h => by rw [HO.out] at h; simp [k2] at h))
      rotate_left
      rcases k3 : kpt (eo, ea, eb) et false m with _ | _
      have HF := hide (okR_bad (m := m) hlt (fun h => by rw [HO.out] at h; simp [k3] at h))
      rotate_left
      rcases k4 : kpt (oo, oa, ob) ot true m with _ | _
      have HF := hide (okR_bad (m := m) hlt (fun h => by rw [HO.out] at h; simp [k4] at h))
      rotate_left
      have HN2 := hide (okN_succ HN.out (by rw [HO.out, k1, k2, k3, k4]; rfl) (by rw [HZ.out]; exact asc_zero))
      all_goals go_wp2
      all_goals
        refine wp_region_det (fun w' => w'.cell? ⟨w.heap.size, 0, none⟩ = some (.int .i64 m) ∧ w'.cell? ⟨w.heap.size, 1, none⟩ = some (.slice (some a1) l.length c) ∧ w'.cell? ⟨wr.heap.size, 0, none⟩ = some (.int .i64 a) ∧ w'.cell? ⟨wr.heap.size, 1, none⟩ = some (.bool eo) ∧ w'.cell? ⟨wr.heap.size, 2, none⟩ = some (.int .i64 ea) ∧ w'.cell? ⟨wr.heap.size, 3, none⟩ = some (.int .i64 eb) ∧ w'.cell? ⟨wr.heap.size, 4, none⟩ = some (.int .i64 et) ∧ w'.cell? ⟨wr.heap.size, 5, none⟩ = some (.bool oo) ∧ w'.cell? ⟨wr.heap.size, 6, none⟩ = some (.int .i64 oa) ∧ w'.cell? ⟨wr.heap.size, 7, none⟩ = some (.int .i64 ob) ∧ w'.cell? ⟨wr.heap.size, 8, none⟩ = some (.int .i64 ot) ∧ w'.cell? ⟨wr.heap.size, 9, none⟩ = some (.int .i64 f) ∧ Below w.heap.size w w') (by kernel_rfl) (by kernel_rfl) (by first | (with_reducible assumption) | (exact hS) | (exact ⟨hS.1, hS.2.1, hS.2.2.1, hS.2.2.2.1, hS.2.2.2.2.1, hS.2.2.2.2.2.1, hS.2.2.2.2.2.2.1, hS.2.2.2.2.2.2.2.1, hS.2.2.2.2.2.2.2.2.1, hS.2.2.2.2.2.2.2.2.2.1, hS.2.2.2.2.2.2.2.2.2.2.1, hS.2.2.2.2.2.2.2.2.2.2.2.1, (by go_grown)⟩) | (exact ⟨(by first | (with_reducible assumption) | (simp [go_sem]; done) | ((simp only [go_sem]); (with_reducible assumption)) | ((refine keep_cell ?_ (by with_reducible assumption)); go_grown; done) | (simp [go_sem, *]; done)), (by first | (with_reducible assumption) | (simp [go_sem]; done) | ((simp only [go_sem]); (with_reducible assumption)) | ((refine keep_cell ?_ (by with_reducible assumption)); go_grown; done) | (simp [go_sem, *]; done)), (by first | (with_reducible assumption) | (simp [go_sem]; done) | ((simp only [go_sem]); (with_reducible assumption)) | ((refine keep_cell ?_ (by with_reducible assumption)); go_grown; done) | (simp [go_sem, *]; done)), (by first | (with_reducible assumption) | (simp [go_sem]; done) | ((simp only [go_sem]); (with_reducible assumption)) | ((refine keep_cell ?_ (by with_reducible assumption)); go_grown; done) | (simp [go_sem, *]; done)), (by first | (with_reducible assumption) | (simp [go_sem]; done) | ((simp only [go_sem]); (with_reducible assumption)) | ((refine keep_cell ?_ (by with_reducible assumption)); go_grown; done) | (simp [go_sem, *]; done)), (by first | (with_reducible assumption) | (simp [go_sem]; done) | ((simp only [go_sem]); (with_reducible assumption)) | ((refine keep_cell ?_ (by with_reducible assumption)); go_grown; done) | (simp [go_sem, *]; done)), (by first | (with_reducible assumption) | (simp [go_sem]; done) | ((simp only [go_sem]); (with_reducible assumption)) | ((refine keep_cell ?_ (by with_reducible assumption)); go_grown; done) | (simp [go_sem, *]; done)), (by first | (with_reducible assumption) | (simp [go_sem]; done) | ((simp only [go_sem]); (with_reducible assumption)) | ((refine keep_cell ?_ (by with_reducible assumption)); go_grown; done) | (simp [go_sem, *]; done)), (by first | (with_reducible assumption) | (simp [go_sem]; done) | ((simp only [go_sem]); (with_reducible assumption)) | ((refine keep_cell ?_ (by with_reducible assumption)); go_grown; done) | (simp [go_sem, *]; done)), (by first | (with_reducible assumption) | (simp [go_sem]; done) | ((simp only [go_sem]); (with_reducible assumption)) | ((refine keep_cell ?_ (by with_reducible assumption)); go_grown; done) | (simp [go_sem, *]; done)), (by first | (with_reducible assumption) | (simp [go_sem]; done) | ((simp only [go_sem]); (with_reducible assumption)) | ((refine keep_cell ?_ (by with_reducible assumption)); go_grown; done) | (simp [go_sem, *]; done)), (by first | (with_reducible assumption) | (simp [go_sem]; done) | ((simp only [go_sem]); (with_reducible assumption)) | ((refine keep_cell ?_ (by with_reducible assumption)); go_grown; done) | (simp [go_sem, *]; done)), (by go_grown)⟩)) ?_
        repeat (first
          | ((refine wpDet_skip (by rfl) ?_); simp only [Act.put, zp1, zp2, zp3])
          | ((refine wpDet_val (v := ?_) (by rfl) (fun w hS => ?_) ?_); rotate_left; (focus ((try dsimp only at hS); go_simp; (try (with_reducible rfl)); done)); simp only [Act.put, zp1, zp2, zp3])
          | ((refine wpDet_call (v := ?_) (f := ?_) (args := ?_) (by rfl) (fun w => ?_) (fun w hS => ?_) ?_); rotate_left; rotate_left; rotate_left; (focus (go_simp; (constructor <;> (with_reducible rfl)); done)); (focus (first | (go_at_call 97; refine (l5Address_c _ _).mono ?_; intro e w' h; refine ⟨h.1.trans ?_, h.2 ▸ hS⟩; with_reducible rfl) | (go_at_call 98; refine (l1In_c _ _ _ _).mono ?_; intro e w' h; refine ⟨h.1.trans ?_, h.2 ▸ hS⟩; with_reducible rfl))); simp only [Act.put, zp1, zp2, zp3]))
        refine wpDet_nil ?_
        intro w1 hS
        have hT : w1.cell? ⟨w.heap.size, 0, none⟩ = some (.int .i64 m) ∧ w1.cell? ⟨w.heap.size, 1, none⟩ = some (.slice (some a1) l.length c) ∧ w1.cell? ⟨wr.heap.size, 0, none⟩ = some (.int .i64 a) ∧ w1.cell? ⟨wr.heap.size, 1, none⟩ = some (.bool eo) ∧ w1.cell? ⟨wr.heap.size, 2, none⟩ = some (.int .i64 ea) ∧ w1.cell? ⟨wr.heap.size, 3, none⟩ = some (.int .i64 eb) ∧ w1.cell? ⟨wr.heap.size, 4, none⟩ = some (.int .i64 et) ∧ w1.cell? ⟨wr.heap.size, 5, none⟩ = some (.bool oo) ∧ w1.cell? ⟨wr.heap.size, 6, none⟩ = some (.int .i64 oa) ∧ w1.cell? ⟨wr.heap.size, 7, none⟩ = some (.int .i64 ob) ∧ w1.cell? ⟨wr.heap.size, 8, none⟩ = some (.int .i64 ot) ∧ w1.cell? ⟨wr.heap.size, 9, none⟩ = some (.int .i64 f) ∧ Below w.heap.size w w1 := hS
        clear hS
        have hS := hT
        obtain ⟨c0, c1, c2, c3, c4, c5, c6, c7, c8, c9, c10, c11, hB⟩ := hT
        have hzw : w.heap.size ≤ w1.heap.size := hB.size
        have hz1 : w.heap.size < w1.heap.size := World.block_lt_of_cell? w1 _ (hS.1)
        have hz2 : wr.heap.size < w1.heap.size := World.block_lt_of_cell? w1 _ (hS.2.2.1)
        go_wp2_with (first | (go_at_call 99; refine (l9Half_c _ _ _ _ _ _ _).mono ?_; rintro e w1 ⟨rfl, hb⟩; have hT : w1.cell? ⟨w.heap.size, 0, none⟩ = some (.int .i64 m) ∧ w1.cell? ⟨w.heap.size, 1, none⟩ = some (.slice (some a1) l.length c) ∧ w1.cell? ⟨wr.heap.size, 0, none⟩ = some (.int .i64 a) ∧ w1.cell? ⟨wr.heap.size, 1, none⟩ = some (.bool eo) ∧ w1.cell? ⟨wr.heap.size, 2, none⟩ = some (.int .i64 ea) ∧ w1.cell? ⟨wr.heap.size, 3, none⟩ = some (.int .i64 eb) ∧ w1.cell? ⟨wr.heap.size, 4, none⟩ = some (.int .i64 et) ∧ w1.cell? ⟨wr.heap.size, 5, none⟩ = some (.bool oo) ∧ w1.cell? ⟨wr.heap.size, 6, none⟩ = some (.int .i64 oa) ∧ w1.cell? ⟨wr.heap.size, 7, none⟩ = some (.int .i64 ob) ∧ w1.cell? ⟨wr.heap.size, 8, none⟩ = some (.int .i64 ot) ∧ w1.cell? ⟨wr.heap.size, 9, none⟩ = some (.int .i64 f) ∧ Below w.heap.size w w1 := (fun W h hb => ⟨keep_cell (hb) h.1, keep_cell (hb) h.2.1, keep_cell (hb) h.2.2.1, keep_cell (hb) h.2.2.2.1, keep_cell (hb) h.2.2.2.2.1, keep_cell (hb) h.2.2.2.2.2.1, keep_cell (hb) h.2.2.2.2.2.2.1, keep_cell (hb) h.2.2.2.2.2.2.2.1, keep_cell (hb) h.2.2.2.2.2.2.2.2.1, keep_cell (hb) h.2.2.2.2.2.2.2.2.2.1, keep_cell (hb) h.2.2.2.2.2.2.2.2.2.2.1, keep_cell (hb) h.2.2.2.2.2.2.2.2.2.2.2.1, below_via h.2.2.2.2.2.2.2.2.2.2.2.2 (hb)⟩ : ∀ W : World, (W.cell? ⟨w.heap.size, 0, none⟩ = some (.int .i64 m) ∧ W.cell? ⟨w.heap.size, 1, none⟩ = some (.slice (some a1) l.length c) ∧ W.cell? ⟨wr.heap.size, 0, none⟩ = some (.int .i64 a) ∧ W.cell? ⟨wr.heap.size, 1, none⟩ = some (.bool eo) ∧ W.cell? ⟨wr.heap.size, 2, none⟩ = some (.int .i64 ea) ∧ W.cell? ⟨wr.heap.size, 3, none⟩ = some (.int .i64 eb) ∧ W.cell? ⟨wr.heap.size, 4, none⟩ = some (.int .i64 et) ∧ W.cell? ⟨wr.heap.size, 5, none⟩ = some (.bool oo) ∧ W.cell? ⟨wr.heap.size, 6, none⟩ = some (.int .i64 oa) ∧ W.cell? ⟨wr.heap.size, 7, none⟩ = some (.int .i64 ob) ∧ W.cell? ⟨wr.heap.size, 8, none⟩ = some (.int .i64 ot) ∧ W.cell? ⟨wr.heap.size, 9, none⟩ = some (.int .i64 f) ∧ Below w.heap.size w W) → Below W.heap.size W w1 → (w1.cell? ⟨w.heap.size, 0, none⟩ = some (.int .i64 m) ∧ w1.cell? ⟨w.heap.size, 1, none⟩ = some (.slice (some a1) l.length c) ∧ w1.cell? ⟨wr.heap.size, 0, none⟩ = some (.int .i64 a) ∧ w1.cell? ⟨wr.heap.size, 1, none⟩ = some (.bool eo) ∧ w1.cell? ⟨wr.heap.size, 2, none⟩ = some (.int .i64 ea) ∧ w1.cell? ⟨wr.heap.size, 3, none⟩ = some (.int .i64 eb) ∧ w1.cell? ⟨wr.heap.size, 4, none⟩ = some (.int .i64 et) ∧ w1.cell? ⟨wr.heap.size, 5, none⟩ = some (.bool oo) ∧ w1.cell? ⟨wr.heap.size, 6, none⟩ = some (.int .i64 oa) ∧ w1.cell? ⟨wr.heap.size, 7, none⟩ = some (.int .i64 ob) ∧ w1.cell? ⟨wr.heap.size, 8, none⟩ = some (.int .i64 ot) ∧ w1.cell? ⟨wr.heap.size, 9, none⟩ = some (.int .i64 f) ∧ Below w.heap.size w w1)) _ (by first | (with_reducible assumption) | (exact hS) | (exact ⟨hS.1, hS.2.1, hS.2.2.1, hS.2.2.2.1, hS.2.2.2.2.1, hS.2.2.2.2.2.1, hS.2.2.2.2.2.2.1, hS.2.2.2.2.2.2.2.1, hS.2.2.2.2.2.2.2.2.1, hS.2.2.2.2.2.2.2.2.2.1, hS.2.2.2.2.2.2.2.2.2.2.1, hS.2.2.2.2.2.2.2.2.2.2.2.1, (by go_grown)⟩) | (exact ⟨(by first | (with_reducible assumption) | (simp [go_sem]; done) | ((simp only [go_sem]); (with_reducible assumption)) | ((refine keep_cell ?_ (by with_reducible assumption)); go_grown; done) | (simp [go_sem, *]; done)), (by first | (with_reducible assumption) | (simp [go_sem]; done) | ((simp only [go_sem]); (with_reducible assumption)) | ((refine keep_cell ?_ (by with_reducible assumption)); go_grown; done) | (simp [go_sem, *]; done)), (by first | (with_reducible assumption) | (simp [go_sem]; done) | ((simp only [go_sem]); (with_reducible assumption)) | ((refine keep_cell ?_ (by with_reducible assumption)); go_grown; done) | (simp [go_sem, *]; done)), (by first | (with_reducible assumption) | (simp [go_sem]; done) | ((simp only [go_sem]); (with_reducible assumption)) | ((refine keep_cell ?_ (by with_reducible assumption)); go_grown; done) | (simp [go_sem, *]; done)), (by first | (with_reducible assumption) | (simp [go_sem]; done) | ((simp only [go_sem]); (with_reducible assumption)) | ((refine keep_cell ?_ (by with_reducible assumption)); go_grown; done) | (simp [go_sem, *]; done)), (by first | (with_reducible assumption) | (simp [go_sem]; done) | ((simp only [go_sem]); (with_reducible assumption)) | ((refine keep_cell ?_ (by with_reducible assumption)); go_grown; done) | (simp [go_sem, *]; done)), (by first | (with_reducible assumption) | (simp [go_sem]; done) | ((simp only [go_sem]); (with_reducible assumption)) | ((refine keep_cell ?_ (by with_reducible assumption)); go_grown; done) | (simp [go_sem, *]; done)), (by first | (with_reducible assumption) | (simp [go_sem]; done) | ((simp only [go_sem]); (with_reducible assumption)) | ((refine keep_cell ?_ (by with_reducible assumption)); go_grown; done) | (simp [go_sem, *]; done)), (by first | (with_reducible assumption) | (simp [go_sem]; done) | ((simp only [go_sem]); (with_reducible assumption)) | ((refine keep_cell ?_ (by with_reducible assumption)); go_grown; done) | (simp [go_sem, *]; done)), (by first | (with_reducible assumption) | (simp [go_sem]; done) | ((simp only [go_sem]); (with_reducible assumption)) | ((refine keep_cell ?_ (by with_reducible assumption)); go_grown; done) | (simp [go_sem, *]; done)), (by first | (with_reducible assumption) | (simp [go_sem]; done) | ((simp only [go_sem]); (with_reducible assumption)) | ((refine keep_cell ?_ (by with_reducible assumption)); go_grown; done) | (simp [go_sem, *]; done)), (by first | (with_reducible assumption) | (simp [go_sem]; done) | ((simp only [go_sem]); (with_reducible assumption)) | ((refine keep_cell ?_ (by with_reducible assumption)); go_grown; done) | (simp [go_sem, *]; done)), (by go_grown)⟩)) hb; (try clear hS); have hS := hT; clear hT; have hB := hS.2.2.2.2.2.2.2.2.2.2.2.2; have hzw : w.heap.size ≤ w1.heap.size := hB.size; have hz1 : w.heap.size < w1.heap.size := World.block_lt_of_cell? w1 _ (hS.1); have hz2 : wr.heap.size < w1.heap.size := World.block_lt_of_cell? w1 _ (hS.2.2.1); clear hb))
      go_roundw
      case rel => exact ⟨i + 1, by omega, by go_num, HN2, by first | (with_reducible assumption) | (exact hS) | (exact ⟨hS.1, hS.2.1, (by go_grown)⟩) | (exact ⟨(by first | (with_reducible assumption) | (simp [go_sem]; done) | ((simp only [go_sem]); (with_reducible assumption)) | ((refine keep_cell ?_ (by with_reducible assumption)); go_grown; done) | (simp [go_sem, *]; done)), (by first | (with_reducible assumption) | (simp [go_sem]; done) | ((simp only [go_sem]); (with_reducible assumption)) | ((refine keep_cell ?_ (by with_reducible assumption)); go_grown; done) | (simp [go_sem, *]; done)), (by go_grown)⟩)⟩
      case measure => simp [intOf]; omega
      all_goals
        go_returns
        exact ⟨ret_eq (by rw [HF.out]; simp), by go_grown⟩
    obtain ⟨k, hk⟩ : ∃ k, i = k + 1 := ⟨i - 1, by omega⟩
    have hz0 : 0 < i := by omega
    have ek : IntKind.i64.wrap ((i : Int) - 1) = (k : Int) := by rw [show (i : Int) - 1 = (k : Int) from by omega]; exact IntWalk.i64_in _ (by omega)
    have HK := hide hk
    have hkl : k < l.length := by omega
    obtain ⟨a2, ha2⟩ : ∃ q, (hx l k).1 = q := ⟨_, rfl⟩
    obtain ⟨ad2, hd2, gkb, g0⟩ := (h1.out.below hB).hd1 (k := k) hkl ha2
    cases hd2
    clear hk hz
    have hasc := hide (show ascH l i ↔ a2 < a from by have h9 := HE.out; rw [HK.out] at h9 ⊢; exact asc_succ (by rw [h9]) ha2)
    rcases k1 : wi a 1 65535 with _ | _
    have HF := hide (okR_bad (m := m) hlt (fun h => by rw [HO.out] at h; simp [k1] at h))
    rotate_left
    by_cases hq3 : a ≤ a2
    have hq : ¬ a2 < a := by omega
    have HF := hide (okR_bad (m := m) hlt (fun h => absurd (hasc.out.1 h.2) (by omega)))
    rotate_left
    have hq : a2 < a := by omega
    clear hq3
    rcases k2 : wi f 1 9999 with _ | _
    have HF := hide (okR_bad (m := m) hlt (fun h => by rw [HO.out] at h; simp [k2] at h))
    have hq2 : (a ≤ a2) = False := eq_false (by omega)
    rotate_left
    rcases k3 : kpt (eo, ea, eb) et false m with _ | _
    have HF := hide (okR_bad (m := m) hlt (fun h => by rw [HO.out] at h; simp [k3] at h))
    have hq2 : (a ≤ a2) = False := eq_false (by omega)
    rotate_left
    rcases k4 : kpt (oo, oa, ob) ot true m with _ | _
    have HF := hide (okR_bad (m := m) hlt (fun h => by rw [HO.out] at h; simp [k4] at h))
    have hq2 : (a ≤ a2) = False := eq_false (by omega)
    rotate_left
    have HN2 := hide (okN_succ HN.out (by rw [HO.out, k1, k2, k3, k4]; rfl) (hasc.out.2 hq))
    have hq2 : (a ≤ a2) = False := eq_false (by omega)
    all_goals go_wp2
    all_goals
      refine wp_region_det (fun w' => w'.cell? ⟨w.heap.size, 0, none⟩ = some (.int .i64 m) ∧ w'.cell? ⟨w.heap.size, 1, none⟩ = some (.slice (some a1) l.length c) ∧ w'.cell? ⟨wr.heap.size, 0, none⟩ = some (.int .i64 a) ∧ w'.cell? ⟨wr.heap.size, 1, none⟩ = some (.bool eo) ∧ w'.cell? ⟨wr.heap.size, 2, none⟩ = some (.int .i64 ea) ∧ w'.cell? ⟨wr.heap.size, 3, none⟩ = some (.int .i64 eb) ∧ w'.cell? ⟨wr.heap.size, 4, none⟩ = some (.int .i64 et) ∧ w'.cell? ⟨wr.heap.size, 5, none⟩ = some (.bool oo) ∧ w'.cell? ⟨wr.heap.size, 6, none⟩ = some (.int .i64 oa) ∧ w'.cell? ⟨wr.heap.size, 7, none⟩ = some (.int .i64 ob) ∧ w'.cell? ⟨wr.heap.size, 8, none⟩ = some (.int .i64 ot) ∧ w'.cell? ⟨wr.heap.size, 9, none⟩ = some (.int .i64 f) ∧ w'.cell? (a1.add (k * 10)) = some (.int .i64 a2) ∧ Below w.heap.size w w') (by kernel_rfl) (by kernel_rfl) (by first | (with_reducible assumption) | (exact hS) | (exact ⟨hS.1, hS.2.1, hS.2.2.1, hS.2.2.2.1, hS.2.2.2.2.1, hS.2.2.2.2.2.1, hS.2.2.2.2.2.2.1, hS.2.2.2.2.2.2.2.1, hS.2.2.2.2.2.2.2.2.1, hS.2.2.2.2.2.2.2.2.2.1, hS.2.2.2.2.2.2.2.2.2.2.1, hS.2.2.2.2.2.2.2.2.2.2.2.1, hS.2.2.2.2.2.2.2.2.2.2.2.2.1, (by go_grown)⟩) | (exact ⟨(by first | (with_reducible assumption) | (simp [go_sem]; done) | ((simp only [go_sem]); (with_reducible assumption)) | ((refine keep_cell ?_ (by with_reducible assumption)); go_grown; done) | (simp [go_sem, *]; done)), (by first | (with_reducible assumption) | (simp [go_sem]; done) | ((simp only [go_sem]); (with_reducible assumption)) | ((refine keep_cell ?_ (by with_reducible assumption)); go_grown; done) | (simp [go_sem, *]; done)), (by first | (with_reducible assumption) | (simp [go_sem]; done) | ((simp only [go_sem]); (with_reducible assumption)) | ((refine keep_cell ?_ (by with_reducible assumption)); go_grown; done) | (simp [go_sem, *]; done)), (by first | (with_reducible assumption) | (simp [go_sem]; done) | ((simp only [go_sem]); (with_reducible assumption)) | ((refine keep_cell ?_ (by with_reducible assumption)); go_grown; done) | (simp [go_sem, *]; done)), (by first | (with_reducible assumption) | (simp [go_sem]; done) | ((simp only [go_sem]); (with_reducible assumption)) | ((refine keep_cell ?_ (by with_reducible assumption)); go_grown; done) | (simp [go_sem, *]; done)), (by first | (with_reducible assumption) | (simp [go_sem]; done) | ((simp only [go_sem]); (with_reducible assumption)) | ((refine keep_cell ?_ (by with_reducible assumption)); go_grown; done) | (simp [go_sem, *]; done)), (by first | (with_reducible assumption) | (simp [go_sem]; done) | ((simp only [go_sem]); (with_reducible assumption)) | ((refine keep_cell ?_ (by with_reducible assumption)); go_grown; done) | (simp [go_sem, *]; done)), (by first | (with_reducible assumption) | (simp [go_sem]; done) | ((simp only [go_sem]); (with_reducible assumption)) | ((refine keep_cell ?_ (by with_reducible assumption)); go_grown; done) | (simp [go_sem, *]; done)), (by first | (with_reducible assumption) | (simp [go_sem]; done) | ((simp only [go_sem]); (with_reducible assumption)) | ((refine keep_cell ?_ (by with_reducible assumption)); go_grown; done) | (simp [go_sem, *]; done)), (by first | (with_reducible assumption) | (simp [go_sem]; done) | ((simp only [go_sem]); (with_reducible assumption)) | ((refine keep_cell ?_ (by with_reducible assumption)); go_grown; done) | (simp [go_sem, *]; done)), (by first | (with_reducible assumption) | (simp [go_sem]; done) | ((simp only [go_sem]); (with_reducible assumption)) | ((refine keep_cell ?_ (by with_reducible assumption)); go_grown; done) | (simp [go_sem, *]; done)), (by first | (with_reducible assumption) | (simp [go_sem]; done) | ((simp only [go_sem]); (with_reducible assumption)) | ((refine keep_cell ?_ (by with_reducible assumption)); go_grown; done) | (simp [go_sem, *]; done)), (by first | (with_reducible assumption) | (simp [go_sem]; done) | ((simp only [go_sem]); (with_reducible assumption)) | ((refine keep_cell ?_ (by with_reducible assumption)); go_grown; done) | (simp [go_sem, *]; done)), (by go_grown)⟩)) ?_
      repeat (first
        | ((refine wpDet_skip (by rfl) ?_); simp only [Act.put, zp1, zp2, zp3])
        | ((refine wpDet_val (v := ?_) (by rfl) (fun w hS => ?_) ?_); rotate_left; (focus ((try dsimp only at hS); go_simp; (try (with_reducible rfl)); done)); simp only [Act.put, zp1, zp2, zp3])
        | ((refine wpDet_call (v := ?_) (f := ?_) (args := ?_) (by rfl) (fun w => ?_) (fun w hS => ?_) ?_); rotate_left; rotate_left; rotate_left; (focus (go_simp; (constructor <;> (with_reducible rfl)); done)); (focus (first | (go_at_call 97; refine (l5Address_c _ _).mono ?_; intro e w' h; refine ⟨h.1.trans ?_, h.2 ▸ hS⟩; with_reducible rfl) | (go_at_call 98; refine (l1In_c _ _ _ _).mono ?_; intro e w' h; refine ⟨h.1.trans ?_, h.2 ▸ hS⟩; with_reducible rfl))); simp only [Act.put, zp1, zp2, zp3]))
      refine wpDet_nil ?_
      intro w1 hS
      have hT : w1.cell? ⟨w.heap.size, 0, none⟩ = some (.int .i64 m) ∧ w1.cell? ⟨w.heap.size, 1, none⟩ = some (.slice (some a1) l.length c) ∧ w1.cell? ⟨wr.heap.size, 0, none⟩ = some (.int .i64 a) ∧ w1.cell? ⟨wr.heap.size, 1, none⟩ = some (.bool eo) ∧ w1.cell? ⟨wr.heap.size, 2, none⟩ = some (.int .i64 ea) ∧ w1.cell? ⟨wr.heap.size, 3, none⟩ = some (.int .i64 eb) ∧ w1.cell? ⟨wr.heap.size, 4, none⟩ = some (.int .i64 et) ∧ w1.cell? ⟨wr.heap.size, 5, none⟩ = some (.bool oo) ∧ w1.cell? ⟨wr.heap.size, 6, none⟩ = some (.int .i64 oa) ∧ w1.cell? ⟨wr.heap.size, 7, none⟩ = some (.int .i64 ob) ∧ w1.cell? ⟨wr.heap.size, 8, none⟩ = some (.int .i64 ot) ∧ w1.cell? ⟨wr.heap.size, 9, none⟩ = some (.int .i64 f) ∧ w1.cell? (a1.add (k * 10)) = some (.int .i64 a2) ∧ Below w.heap.size w w1 := hS
      clear hS
      have hS := hT
      obtain ⟨c0, c1, c2, c3, c4, c5, c6, c7, c8, c9, c10, c11, c12, hB⟩ := hT
      have hzw : w.heap.size ≤ w1.heap.size := hB.size
      have hz1 : w.heap.size < w1.heap.size := World.block_lt_of_cell? w1 _ (hS.1)
      have hz2 : wr.heap.size < w1.heap.size := World.block_lt_of_cell? w1 _ (hS.2.2.1)
      go_wp2_with (first | (go_at_call 99; refine (l9Half_c _ _ _ _ _ _ _).mono ?_; rintro e w1 ⟨rfl, hb⟩; have hT : w1.cell? ⟨w.heap.size, 0, none⟩ = some (.int .i64 m) ∧ w1.cell? ⟨w.heap.size, 1, none⟩ = some (.slice (some a1) l.length c) ∧ w1.cell? ⟨wr.heap.size, 0, none⟩ = some (.int .i64 a) ∧ w1.cell? ⟨wr.heap.size, 1, none⟩ = some (.bool eo) ∧ w1.cell? ⟨wr.heap.size, 2, none⟩ = some (.int .i64 ea) ∧ w1.cell? ⟨wr.heap.size, 3, none⟩ = some (.int .i64 eb) ∧ w1.cell? ⟨wr.heap.size, 4, none⟩ = some (.int .i64 et) ∧ w1.cell? ⟨wr.heap.size, 5, none⟩ = some (.bool oo) ∧ w1.cell? ⟨wr.heap.size, 6, none⟩ = some (.int .i64 oa) ∧ w1.cell? ⟨wr.heap.size, 7, none⟩ = some (.int .i64 ob) ∧ w1.cell? ⟨wr.heap.size, 8, none⟩ = some (.int .i64 ot) ∧ w1.cell? ⟨wr.heap.size, 9, none⟩ = some (.int .i64 f) ∧ Below w.heap.size w w1 := (fun W h hb => ⟨keep_cell (hb) h.1, keep_cell (hb) h.2.1, keep_cell (hb) h.2.2.1, keep_cell (hb) h.2.2.2.1, keep_cell (hb) h.2.2.2.2.1, keep_cell (hb) h.2.2.2.2.2.1, keep_cell (hb) h.2.2.2.2.2.2.1, keep_cell (hb) h.2.2.2.2.2.2.2.1, keep_cell (hb) h.2.2.2.2.2.2.2.2.1, keep_cell (hb) h.2.2.2.2.2.2.2.2.2.1, keep_cell (hb) h.2.2.2.2.2.2.2.2.2.2.1, keep_cell (hb) h.2.2.2.2.2.2.2.2.2.2.2.1, below_via h.2.2.2.2.2.2.2.2.2.2.2.2 (hb)⟩ : ∀ W : World, (W.cell? ⟨w.heap.size, 0, none⟩ = some (.int .i64 m) ∧ W.cell? ⟨w.heap.size, 1, none⟩ = some (.slice (some a1) l.length c) ∧ W.cell? ⟨wr.heap.size, 0, none⟩ = some (.int .i64 a) ∧ W.cell? ⟨wr.heap.size, 1, none⟩ = some (.bool eo) ∧ W.cell? ⟨wr.heap.size, 2, none⟩ = some (.int .i64 ea) ∧ W.cell? ⟨wr.heap.size, 3, none⟩ = some (.int .i64 eb) ∧ W.cell? ⟨wr.heap.size, 4, none⟩ = some (.int .i64 et) ∧ W.cell? ⟨wr.heap.size, 5, none⟩ = some (.bool oo) ∧ W.cell? ⟨wr.heap.size, 6, none⟩ = some (.int .i64 oa) ∧ W.cell? ⟨wr.heap.size, 7, none⟩ = some (.int .i64 ob) ∧ W.cell? ⟨wr.heap.size, 8, none⟩ = some (.int .i64 ot) ∧ W.cell? ⟨wr.heap.size, 9, none⟩ = some (.int .i64 f) ∧ Below w.heap.size w W) → Below W.heap.size W w1 → (w1.cell? ⟨w.heap.size, 0, none⟩ = some (.int .i64 m) ∧ w1.cell? ⟨w.heap.size, 1, none⟩ = some (.slice (some a1) l.length c) ∧ w1.cell? ⟨wr.heap.size, 0, none⟩ = some (.int .i64 a) ∧ w1.cell? ⟨wr.heap.size, 1, none⟩ = some (.bool eo) ∧ w1.cell? ⟨wr.heap.size, 2, none⟩ = some (.int .i64 ea) ∧ w1.cell? ⟨wr.heap.size, 3, none⟩ = some (.int .i64 eb) ∧ w1.cell? ⟨wr.heap.size, 4, none⟩ = some (.int .i64 et) ∧ w1.cell? ⟨wr.heap.size, 5, none⟩ = some (.bool oo) ∧ w1.cell? ⟨wr.heap.size, 6, none⟩ = some (.int .i64 oa) ∧ w1.cell? ⟨wr.heap.size, 7, none⟩ = some (.int .i64 ob) ∧ w1.cell? ⟨wr.heap.size, 8, none⟩ = some (.int .i64 ot) ∧ w1.cell? ⟨wr.heap.size, 9, none⟩ = some (.int .i64 f) ∧ Below w.heap.size w w1)) _ (by first | (with_reducible assumption) | (exact hS) | (exact ⟨hS.1, hS.2.1, hS.2.2.1, hS.2.2.2.1, hS.2.2.2.2.1, hS.2.2.2.2.2.1, hS.2.2.2.2.2.2.1, hS.2.2.2.2.2.2.2.1, hS.2.2.2.2.2.2.2.2.1, hS.2.2.2.2.2.2.2.2.2.1, hS.2.2.2.2.2.2.2.2.2.2.1, hS.2.2.2.2.2.2.2.2.2.2.2.1, (by go_grown)⟩) | (exact ⟨(by first | (with_reducible assumption) | (simp [go_sem]; done) | ((simp only [go_sem]); (with_reducible assumption)) | ((refine keep_cell ?_ (by with_reducible assumption)); go_grown; done) | (simp [go_sem, *]; done)), (by first | (with_reducible assumption) | (simp [go_sem]; done) | ((simp only [go_sem]); (with_reducible assumption)) | ((refine keep_cell ?_ (by with_reducible assumption)); go_grown; done) | (simp [go_sem, *]; done)), (by first | (with_reducible assumption) | (simp [go_sem]; done) | ((simp only [go_sem]); (with_reducible assumption)) | ((refine keep_cell ?_ (by with_reducible assumption)); go_grown; done) | (simp [go_sem, *]; done)), (by first | (with_reducible assumption) | (simp [go_sem]; done) | ((simp only [go_sem]); (with_reducible assumption)) | ((refine keep_cell ?_ (by with_reducible assumption)); go_grown; done) | (simp [go_sem, *]; done)), (by first | (with_reducible assumption) | (simp [go_sem]; done) | ((simp only [go_sem]); (with_reducible assumption)) | ((refine keep_cell ?_ (by with_reducible assumption)); go_grown; done) | (simp [go_sem, *]; done)), (by first | (with_reducible assumption) | (simp [go_sem]; done) | ((simp only [go_sem]); (with_reducible assumption)) | ((refine keep_cell ?_ (by with_reducible assumption)); go_grown; done) | (simp [go_sem, *]; done)), (by first | (with_reducible assumption) | (simp [go_sem]; done) | ((simp only [go_sem]); (with_reducible assumption)) | ((refine keep_cell ?_ (by with_reducible assumption)); go_grown; done) | (simp [go_sem, *]; done)), (by first | (with_reducible assumption) | (simp [go_sem]; done) | ((simp only [go_sem]); (with_reducible assumption)) | ((refine keep_cell ?_ (by with_reducible assumption)); go_grown; done) | (simp [go_sem, *]; done)), (by first | (with_reducible assumption) | (simp [go_sem]; done) | ((simp only [go_sem]); (with_reducible assumption)) | ((refine keep_cell ?_ (by with_reducible assumption)); go_grown; done) | (simp [go_sem, *]; done)), (by first | (with_reducible assumption) | (simp [go_sem]; done) | ((simp only [go_sem]); (with_reducible assumption)) | ((refine keep_cell ?_ (by with_reducible assumption)); go_grown; done) | (simp [go_sem, *]; done)), (by first | (with_reducible assumption) | (simp [go_sem]; done) | ((simp only [go_sem]); (with_reducible assumption)) | ((refine keep_cell ?_ (by with_reducible assumption)); go_grown; done) | (simp [go_sem, *]; done)), (by first | (with_reducible assumption) | (simp [go_sem]; done) | ((simp only [go_sem]); (with_reducible assumption)) | ((refine keep_cell ?_ (by with_reducible assumption)); go_grown; done) | (simp [go_sem, *]; done)), (by go_grown)⟩)) hb; (try clear hS); have hS := hT; clear hT; have hB := hS.2.2.2.2.2.2.2.2.2.2.2.2; have hzw : w.heap.size ≤ w1.heap.size := hB.size; have hz1 : w.heap.size < w1.heap.size := World.block_lt_of_cell? w1 _ (hS.1); have hz2 : wr.heap.size < w1.heap.size := World.block_lt_of_cell? w1 _ (hS.2.2.1); clear hb))
    go_roundw
    case rel => exact ⟨i + 1, by omega, by go_num, HN2, by first | (with_reducible assumption) | (exact hS) | (exact ⟨hS.1, hS.2.1, (by go_grown)⟩) | (exact ⟨(by first | (with_reducible assumption) | (simp [go_sem]; done) | ((simp only [go_sem]); (with_reducible assumption)) | ((refine keep_cell ?_ (by with_reducible assumption)); go_grown; done) | (simp [go_sem, *]; done)), (by first | (with_reducible assumption) | (simp [go_sem]; done) | ((simp only [go_sem]); (with_reducible assumption)) | ((refine keep_cell ?_ (by with_reducible assumption)); go_grown; done) | (simp [go_sem, *]; done)), (by go_grown)⟩)⟩
    case measure => simp [intOf]; omega
    all_goals
      go_returns
      exact ⟨ret_eq (by rw [HF.out]; simp), by go_grown⟩
theorem sValidRecv_c (m : Int) (A : Option Addr) (c : Nat) (l : List Hd) (w : World) (h1 : Hid (Reads w w.heap.size 10 A l.length (hds l))) (b1 : l.length ≤ 4000000) : Calls Try.prog 19 #[.agg #[.int .i64 m, .slice A l.length c]] w (Gives w (.bool (okR m l))) := by
  go_enter Try.func19, Try.ntmps19
  go_wp2_with (first | (go_at_call 58; refine (l9Good_c _ _ _ l _ (hide (by refine reads_below h1.out ?_; go_grown)) b1).mono ?_; rintro e w1 ⟨rfl, hb⟩; have hT : Below w.heap.size w w1 := (fun W h hb => below_via h (hb) : ∀ W : World, (Below w.heap.size w W) → Below W.heap.size W w1 → (Below w.heap.size w w1)) _ (by first | (with_reducible assumption) | go_grown) hb; (try clear hS); have hS := hT; clear hT; have hB := hS; have hzw : w.heap.size ≤ w1.heap.size := hB.size; clear hb))
  all_goals (go_returns; exact ⟨ret_eq (by rfl), by go_grown⟩)
end Go.Proofs.Ytbeojfhakmbacaa
