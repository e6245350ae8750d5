/- What is proved here is used by the law below: contracts of functions and plain lemmas (part 8 of 17). Their conditions stand in each. -/
import Derived.Deep.DeepCutAuto
import Derived.Test.YtbeojfhakmbacaaFinRjaa
import Derived.Test.YtbeojfhakmbacaaFinRjab
import Derived.Test.YtbeojfhakmbacaaFinRjac
import Derived.Test.YtbeojfhakmbacaaFinRjag
namespace Go.Proofs.Ytbeojfhakmbacaa
def RvK (m : Int) (l : List Hd) (s : ByteArray) (t : Int) : Bool := okR m l && rvK m l s t
def RvM (m : Int) (l : List Hd) (s : ByteArray) (t : Int) : Int := if okR m l = true then rvM m l s t else 0
def RvV (m : Int) (l : List Hd) (s : ByteArray) (t : Int) : List Hd := if okR m l = true then rvV m l s t else []
theorem Rv_bad {m : Int} {l : List Hd} {s : ByteArray} {t : Int} (h : okR m l = false) : RvK m l s t = false ∧ RvM m l s t = 0 ∧ RvV m l s t = [] :=
  ⟨by unfold RvK; rw [h]; rfl, by unfold RvM; rw [h]; rfl, by unfold RvV; rw [h]; rfl⟩
theorem Rv_ok {m : Int} {l : List Hd} {s : ByteArray} {t : Int} (h : okR m l = true) : RvK m l s t = rvK m l s t ∧ RvM m l s t = rvM m l s t ∧ RvV m l s t = rvV m l s t :=
  ⟨by unfold RvK; rw [h]; rfl, by unfold RvM; rw [if_pos h], by unfold RvV; rw [if_pos h]⟩
theorem RvV_len (m : Int) (l : List Hd) (s : ByteArray) (t : Int) : (RvV m l s t).length ≤ l.length + 1 := by
  unfold RvV; split
  · exact rvV_len _ _ _ _
  · simp
end Go.Proofs.Ytbeojfhakmbacaa
namespace Go.Proofs.Ytbeojfhakmbacaa
open Go.RowKit
set_option maxHeartbeats 8000000 in
theorem Receive_c (m : Int) (A : Option Addr) (c : Nat) (l : List Hd) (s : ByteArray) (t : Int) (w : World) (h1 : Hid (Reads w w.heap.size 10 A l.length (hds l))) (b1 : l.length ≤ 4000000) (hmax : s.size ≤ 1000000000000)  : Calls Try.prog 15 #[.agg #[.int .i64 m, .slice A l.length c], .string s, .int .i64 t] w (GivesS w 42 10 (RvV m l s t).length (hds (RvV m l s t)) (fun v => .tuple #[.agg #[.int .i64 (RvM m l s t), v], .bool (RvK m l s t)])) := by
  rcases ho : okR m l with _ | _
  · have HF := hide (Rv_bad (s := s) (t := t) ho)
    go_enter Try.func15, Try.ntmps15
    go_wp2_with (first | (go_at_call 18; refine (validRecv_c _ _ _ l _ (hide (by refine reads_below h1.out ?_; go_grown)) b1).mono ?_; rintro e w1 ⟨rfl, hb⟩; have hT : w1.cell? ⟨w.heap.size, 0, none⟩ = some (.int .i64 m) ∧ w1.cell? ⟨w.heap.size, 1, none⟩ = some (.slice A l.length c) ∧ w1.cell? ⟨w.heap.size + 1, 0, none⟩ = some (.int .i64 0) ∧ w1.cell? ⟨w.heap.size + 1, 1, none⟩ = some (.slice none 0 0) ∧ (w.heap.size + 1 < w1.heap.size ∧ ∀ i, w1.frozen? ⟨w.heap.size + 1, i, none⟩ = false) ∧ Below w.heap.size w w1 := (fun W h hb => ⟨keep_cell (hb) h.1, keep_cell (hb) h.2.1, keep_cell (hb) h.2.2.1, keep_cell (hb) h.2.2.2.1, keep_fre (hb) h.2.2.2.2.1, below_via h.2.2.2.2.2 (hb)⟩ : ∀ W : World, (W.cell? ⟨w.heap.size, 0, none⟩ = some (.int .i64 m) ∧ W.cell? ⟨w.heap.size, 1, none⟩ = some (.slice A l.length c) ∧ W.cell? ⟨w.heap.size + 1, 0, none⟩ = some (.int .i64 0) ∧ W.cell? ⟨w.heap.size + 1, 1, none⟩ = some (.slice none 0 0) ∧ (w.heap.size + 1 < W.heap.size ∧ ∀ i, W.frozen? ⟨w.heap.size + 1, i, none⟩ = false) ∧ Below w.heap.size w W) → Below W.heap.size W w1 → (w1.cell? ⟨w.heap.size, 0, none⟩ = some (.int .i64 m) ∧ w1.cell? ⟨w.heap.size, 1, none⟩ = some (.slice A l.length c) ∧ w1.cell? ⟨w.heap.size + 1, 0, none⟩ = some (.int .i64 0) ∧ w1.cell? ⟨w.heap.size + 1, 1, none⟩ = some (.slice none 0 0) ∧ (w.heap.size + 1 < w1.heap.size ∧ ∀ i, w1.frozen? ⟨w.heap.size + 1, i, none⟩ = false) ∧ Below w.heap.size w w1)) _ (by first | (with_reducible assumption) | (exact hS) | (exact ⟨hS.1, hS.2.1, hS.2.2.1, hS.2.2.2.1, hS.2.2.2.2.1, (by go_grown)⟩) | (exact ⟨(by first | (with_reducible assumption) | (simp [go_sem]; done) | ((simp only [go_sem]); (with_reducible assumption)) | ((refine keep_cell ?_ (by with_reducible assumption)); go_grown; done) | (simp [go_sem, *]; done)), (by first | (with_reducible assumption) | (simp [go_sem]; done) | ((simp only [go_sem]); (with_reducible assumption)) | ((refine keep_cell ?_ (by with_reducible assumption)); go_grown; done) | (simp [go_sem, *]; done)), (by first | (with_reducible assumption) | (simp [go_sem]; done) | ((simp only [go_sem]); (with_reducible assumption)) | ((refine keep_cell ?_ (by with_reducible assumption)); go_grown; done) | (simp [go_sem, *]; done)), (by first | (with_reducible assumption) | (simp [go_sem]; done) | ((simp only [go_sem]); (with_reducible assumption)) | ((refine keep_cell ?_ (by with_reducible assumption)); go_grown; done) | (simp [go_sem, *]; done)), (by first | (with_reducible assumption) | (simp [go_sem]; done) | (refine keep_fre ?_ ⟨by with_reducible assumption, by with_reducible assumption⟩; go_grown; done) | (simp [go_sem, *]; done)), (by go_grown)⟩)) hb; (try clear hS); have hS := hT; clear hT; have hB := hS.2.2.2.2.2; have hzw : w.heap.size ≤ w1.heap.size := hB.size; have hz1 : w.heap.size < w1.heap.size := World.block_lt_of_cell? w1 _ (hS.1); have hz2 : w.heap.size + 1 < w1.heap.size := World.block_lt_of_cell? w1 _ (hS.2.2.1); clear hb))
    refine bodyPost_ret (by simp [results, Try.results15, go_sem, cell_set_some, *]; try rfl) rfl ?_
    rw [HF.out.1, HF.out.2.1, HF.out.2.2]
    exact ⟨none, 0, rfl, World.ownsRow_nil _ _ _ _, by go_grown⟩
  have HF := hide (Rv_ok (s := s) (t := t) ho)
  rw [HF.out.1, HF.out.2.1, HF.out.2.2]
  go_enter Try.func15, Try.ntmps15
  go_wp2_with (first | (go_at_call 18; refine (validRecv_c _ _ _ l _ (hide (by refine reads_below h1.out ?_; go_grown)) b1).mono ?_; rintro e w1 ⟨rfl, hb⟩; have hT : w1.cell? ⟨w.heap.size, 0, none⟩ = some (.int .i64 m) ∧ w1.cell? ⟨w.heap.size, 1, none⟩ = some (.slice A l.length c) ∧ w1.cell? ⟨w.heap.size + 1, 0, none⟩ = some (.int .i64 0) ∧ w1.cell? ⟨w.heap.size + 1, 1, none⟩ = some (.slice none 0 0) ∧ (w.heap.size + 1 < w1.heap.size ∧ ∀ i, w1.frozen? ⟨w.heap.size + 1, i, none⟩ = false) ∧ Below w.heap.size w w1 := (fun W h hb => ⟨keep_cell (hb) h.1, keep_cell (hb) h.2.1, keep_cell (hb) h.2.2.1, keep_cell (hb) h.2.2.2.1, keep_fre (hb) h.2.2.2.2.1, below_via h.2.2.2.2.2 (hb)⟩ : ∀ W : World, (W.cell? ⟨w.heap.size, 0, none⟩ = some (.int .i64 m) ∧ W.cell? ⟨w.heap.size, 1, none⟩ = some (.slice A l.length c) ∧ W.cell? ⟨w.heap.size + 1, 0, none⟩ = some (.int .i64 0) ∧ W.cell? ⟨w.heap.size + 1, 1, none⟩ = some (.slice none 0 0) ∧ (w.heap.size + 1 < W.heap.size ∧ ∀ i, W.frozen? ⟨w.heap.size + 1, i, none⟩ = false) ∧ Below w.heap.size w W) → Below W.heap.size W w1 → (w1.cell? ⟨w.heap.size, 0, none⟩ = some (.int .i64 m) ∧ w1.cell? ⟨w.heap.size, 1, none⟩ = some (.slice A l.length c) ∧ w1.cell? ⟨w.heap.size + 1, 0, none⟩ = some (.int .i64 0) ∧ w1.cell? ⟨w.heap.size + 1, 1, none⟩ = some (.slice none 0 0) ∧ (w.heap.size + 1 < w1.heap.size ∧ ∀ i, w1.frozen? ⟨w.heap.size + 1, i, none⟩ = false) ∧ Below w.heap.size w w1)) _ (by first | (with_reducible assumption) | (exact hS) | (exact ⟨hS.1, hS.2.1, hS.2.2.1, hS.2.2.2.1, hS.2.2.2.2.1, (by go_grown)⟩) | (exact ⟨(by first | (with_reducible assumption) | (simp [go_sem]; done) | ((simp only [go_sem]); (with_reducible assumption)) | ((refine keep_cell ?_ (by with_reducible assumption)); go_grown; done) | (simp [go_sem, *]; done)), (by first | (with_reducible assumption) | (simp [go_sem]; done) | ((simp only [go_sem]); (with_reducible assumption)) | ((refine keep_cell ?_ (by with_reducible assumption)); go_grown; done) | (simp [go_sem, *]; done)), (by first | (with_reducible assumption) | (simp [go_sem]; done) | ((simp only [go_sem]); (with_reducible assumption)) | ((refine keep_cell ?_ (by with_reducible assumption)); go_grown; done) | (simp [go_sem, *]; done)), (by first | (with_reducible assumption) | (simp [go_sem]; done) | ((simp only [go_sem]); (with_reducible assumption)) | ((refine keep_cell ?_ (by with_reducible assumption)); go_grown; done) | (simp [go_sem, *]; done)), (by first | (with_reducible assumption) | (simp [go_sem]; done) | (refine keep_fre ?_ ⟨by with_reducible assumption, by with_reducible assumption⟩; go_grown; done) | (simp [go_sem, *]; done)), (by go_grown)⟩)) hb; (try clear hS); have hS := hT; clear hT; have hB := hS.2.2.2.2.2; have hzw : w.heap.size ≤ w1.heap.size := hB.size; have hz1 : w.heap.size < w1.heap.size := World.block_lt_of_cell? w1 _ (hS.1); have hz2 : w.heap.size + 1 < w1.heap.size := World.block_lt_of_cell? w1 _ (hS.2.2.1); clear hb) | (go_at_call 56; refine (received_c m A c l s t _ (hide (by refine reads_below h1.out ?_; go_grown)) b1 ho hmax).mono ?_; rintro e w2 ⟨B, d, rfl, hown, hb⟩; have hT : w2.cell? ⟨w.heap.size, 0, none⟩ = some (.int .i64 m) ∧ w2.cell? ⟨w.heap.size, 1, none⟩ = some (.slice A l.length c) ∧ w2.cell? ⟨w.heap.size + 1, 0, none⟩ = some (.int .i64 0) ∧ w2.cell? ⟨w.heap.size + 1, 1, none⟩ = some (.slice none 0 0) ∧ (w.heap.size + 1 < w2.heap.size ∧ ∀ i, w2.frozen? ⟨w.heap.size + 1, i, none⟩ = false) ∧ Below w.heap.size w w2 := (fun W h hb => ⟨keep_cell (hb) h.1, keep_cell (hb) h.2.1, keep_cell (hb) h.2.2.1, keep_cell (hb) h.2.2.2.1, keep_fre (hb) h.2.2.2.2.1, below_via h.2.2.2.2.2 (hb)⟩ : ∀ W : World, (W.cell? ⟨w.heap.size, 0, none⟩ = some (.int .i64 m) ∧ W.cell? ⟨w.heap.size, 1, none⟩ = some (.slice A l.length c) ∧ W.cell? ⟨w.heap.size + 1, 0, none⟩ = some (.int .i64 0) ∧ W.cell? ⟨w.heap.size + 1, 1, none⟩ = some (.slice none 0 0) ∧ (w.heap.size + 1 < W.heap.size ∧ ∀ i, W.frozen? ⟨w.heap.size + 1, i, none⟩ = false) ∧ Below w.heap.size w W) → Below W.heap.size W w2 → (w2.cell? ⟨w.heap.size, 0, none⟩ = some (.int .i64 m) ∧ w2.cell? ⟨w.heap.size, 1, none⟩ = some (.slice A l.length c) ∧ w2.cell? ⟨w.heap.size + 1, 0, none⟩ = some (.int .i64 0) ∧ w2.cell? ⟨w.heap.size + 1, 1, none⟩ = some (.slice none 0 0) ∧ (w.heap.size + 1 < w2.heap.size ∧ ∀ i, w2.frozen? ⟨w.heap.size + 1, i, none⟩ = false) ∧ Below w.heap.size w w2)) _ (by first | (with_reducible assumption) | (exact hS) | (exact ⟨hS.1, hS.2.1, hS.2.2.1, hS.2.2.2.1, hS.2.2.2.2.1, (by go_grown)⟩) | (exact ⟨(by first | (with_reducible assumption) | (simp [go_sem]; done) | ((simp only [go_sem]); (with_reducible assumption)) | ((refine keep_cell ?_ (by with_reducible assumption)); go_grown; done) | (simp [go_sem, *]; done)), (by first | (with_reducible assumption) | (simp [go_sem]; done) | ((simp only [go_sem]); (with_reducible assumption)) | ((refine keep_cell ?_ (by with_reducible assumption)); go_grown; done) | (simp [go_sem, *]; done)), (by first | (with_reducible assumption) | (simp [go_sem]; done) | ((simp only [go_sem]); (with_reducible assumption)) | ((refine keep_cell ?_ (by with_reducible assumption)); go_grown; done) | (simp [go_sem, *]; done)), (by first | (with_reducible assumption) | (simp [go_sem]; done) | ((simp only [go_sem]); (with_reducible assumption)) | ((refine keep_cell ?_ (by with_reducible assumption)); go_grown; done) | (simp [go_sem, *]; done)), (by first | (with_reducible assumption) | (simp [go_sem]; done) | (refine keep_fre ?_ ⟨by with_reducible assumption, by with_reducible assumption⟩; go_grown; done) | (simp [go_sem, *]; done)), (by go_grown)⟩)) hb; (try clear hS); have hS := hT; clear hT; have hB := hS.2.2.2.2.2; have hzw : w.heap.size ≤ w2.heap.size := hB.size; have hz1 : w.heap.size < w2.heap.size := World.block_lt_of_cell? w2 _ (hS.1); have hz2 : w.heap.size + 1 < w2.heap.size := World.block_lt_of_cell? w2 _ (hS.2.2.1); clear hb))
  refine bodyPost_ret (by simp [results, Try.results15, go_sem, cell_set_some, *]; try rfl) rfl ?_
  refine ⟨B, d, rfl, own_mono ?_ (show w.heap.size ≤ w1.heap.size by omega), by go_grown⟩
  repeat (refine own_set ?_ (by first | (simp; done) | (simp; omega)) _)
  exact hown
end Go.Proofs.Ytbeojfhakmbacaa
namespace Go.Proofs.Ytbeojfhakmbacaa
open Go.RowKit
def strs (l : List ByteArray) : List Value := l.map .string
def sx (l : List ByteArray) (k : Nat) : ByteArray := l.getD k ByteArray.empty
theorem strs_len (l : List ByteArray) : (strs l).length = l.length := by simp [strs]
theorem strs_at (l : List ByteArray) (k : Nat) (h : k < l.length) : (strs l)[k]? = some (.string (sx l k)) := by
  simp [strs, sx, h]
theorem sx_mem {l : List ByteArray} {k : Nat} (h : k < l.length) : sx l k ∈ l := by
  unfold sx; rw [List.getD_eq_getElem?_getD, List.getElem?_eq_getElem h]; simp
theorem Reads.str {w : World} {B n : Nat} {A : Option Addr} {l : List ByteArray} (h : Reads w B 1 A n (strs l)) {k : Nat} (hk : k < l.length) : ∃ ad : Addr, A = some ad ∧ ad.block < B ∧ w.cell? (ad.add k) = some (.string (sx l k)) := by
  have hl := h.1
  rw [strs_len] at hl
  exact h.one (by omega) (strs_at l k hk)
theorem infoStr : (Try.prog.info? 9).map (fun i => (i.zero, i.size, i.bytes)) = some (some (.string ByteArray.empty), 1, 16) := by kernel_rfl
end Go.Proofs.Ytbeojfhakmbacaa
namespace Go.Proofs.Ytbeojfhakmbacaa
open Go.RowKit
def raN (t m : Int) (l : List Hd) (ls : List ByteArray) : Nat → Int × List Hd × Nat
  | 0 => (m, l, 0)
  | i + 1 => if rvK (raN t m l ls i).1 (raN t m l ls i).2.1 (sx ls i) t = true then (rvM (raN t m l ls i).1 (raN t m l ls i).2.1 (sx ls i) t, rvV (raN t m l ls i).1 (raN t m l ls i).2.1 (sx ls i) t, (raN t m l ls i).2.2 + 1) else raN t m l ls i
theorem raN_yes {t m : Int} {l : List Hd} {ls : List ByteArray} {i n : Nat} {M : Int} {L : List Hd} (h : raN t m l ls i = (M, L, n)) (hk : rvK M L (sx ls i) t = true) : raN t m l ls (i + 1) = (rvM M L (sx ls i) t, rvV M L (sx ls i) t, n + 1) := by
  rw [raN, h]; exact if_pos hk
theorem raN_no {t m : Int} {l : List Hd} {ls : List ByteArray} {i n : Nat} {M : Int} {L : List Hd} (h : raN t m l ls i = (M, L, n)) (hk : rvK M L (sx ls i) t = false) : raN t m l ls (i + 1) = (M, L, n) := by
  rw [raN, h]; exact if_neg (by rw [hk]; decide)
theorem raN_ok {t m : Int} {l : List Hd} {ls : List ByteArray} (h : okR m l = true) : ∀ i, okR (raN t m l ls i).1 (raN t m l ls i).2.1 = true ∧ (raN t m l ls i).2.2 ≤ i
  | 0 => ⟨h, Nat.le_refl _⟩
  | i + 1 => by
    obtain ⟨a, b⟩ := raN_ok (t := t) (ls := ls) h i
    rw [raN]
    split
    · rename_i hk
      exact ⟨rv_ok hk, by show _ + 1 ≤ i + 1; omega⟩
    · exact ⟨a, by omega⟩
def raK (m : Int) (l : List Hd) (ls : List ByteArray) (t : Int) : Bool := okR m l && (decide (ls.length ≤ 20) && (wi t 0 9999 && decide (m ≤ t)))
def raM (m : Int) (l : List Hd) (ls : List ByteArray) (t : Int) : Int := if raK m l ls t = true then (raN t m l ls ls.length).1 else 0
def raV (m : Int) (l : List Hd) (ls : List ByteArray) (t : Int) : List Hd := if raK m l ls t = true then (raN t m l ls ls.length).2.1 else []
def raC (m : Int) (l : List Hd) (ls : List ByteArray) (t : Int) : Int := if raK m l ls t = true then ((raN t m l ls ls.length).2.2 : Int) else 0
theorem ra_no {m : Int} {l : List Hd} {ls : List ByteArray} {t : Int} (h : raK m l ls t = false) : raK m l ls t = false ∧ raM m l ls t = 0 ∧ raV m l ls t = [] ∧ raC m l ls t = 0 := ⟨h, by unfold raM; rw [h]; rfl, by unfold raV; rw [h]; rfl, by unfold raC; rw [h]; rfl⟩
theorem ra_yes {m : Int} {l : List Hd} {ls : List ByteArray} {t : Int} {M : Int} {L : List Hd} {n : Nat} (h : raK m l ls t = true) (e : raN t m l ls ls.length = (M, L, n)) : raK m l ls t = true ∧ raM m l ls t = M ∧ raV m l ls t = L ∧ raC m l ls t = (n : Int) := ⟨h, by unfold raM; rw [if_pos h, e], by unfold raV; rw [if_pos h, e], by unfold raC; rw [if_pos h, e]⟩
theorem raV_len (m : Int) (l : List Hd) (ls : List ByteArray) (t : Int) : (raV m l ls t).length ≤ 6 := by
  unfold raV
  split
  · rename_i h
    unfold raK at h
    simp only [Bool.and_eq_true] at h
    exact (okR_iff (raN_ok (t := t) (ls := ls) h.1 ls.length).1).2.1
  · simp
end Go.Proofs.Ytbeojfhakmbacaa
namespace Go.Proofs.Ytbeojfhakmbacaa
open Go.RowKit
theorem ne_some {a b : Nat} (h : a ≠ b) : some a ≠ some b := fun e => h (Option.some.inj e)
theorem kf {w w1 : World} {b : Nat} (hb : Below w.heap.size w w1) (h : b < w.heap.size) (h2 : ∀ i, w.frozen? ⟨b, i, none⟩ = false) : b < w1.heap.size ∧ ∀ i, w1.frozen? ⟨b, i, none⟩ = false := keep_fre hb ⟨h, h2⟩
theorem gc {w w1 : World} {g b k : Nat} {u : Value} (hg : w.grownBy w1 (some g)) (h : w.cell? ⟨b, k, none⟩ = some u) (hne : b ≠ g) : w1.cell? ⟨b, k, none⟩ = some u := hg.cell h (ne_some hne)
section
variable {w w1 K : World} {b g k : Nat} {u v t : Value} {r : Option Nat}
section
variable (hw : w1 = (w.setCell ⟨b, 0, none⟩ u).setCell ⟨b, 1, none⟩ v)
include hw
end
end
theorem pa {α : Type _} (l : List α) (i : Nat) (a : α) : l.toArray.setIfInBounds i a = (l.set i a).toArray := List.setIfInBounds_toArray ..
theorem pb {α : Type _} (l : List α) (x y : α) : (x :: l).set 0 y = y :: l := rfl
theorem pc {α : Type _} (l : List α) (x y : α) (n : Nat) : (x :: l).set (n + 1) y = x :: l.set n y := rfl
end Go.Proofs.Ytbeojfhakmbacaa
namespace Go.Proofs.Ytbeojfhakmbacaa
open Go.RowKit
theorem ty_ne {w : World} {base : Nat} {e e2 : TypeId} {size : Nat} {A : Option Addr} {c n : Nat} {xs : List Value} {T : Nat} (h : w.ownsRow base e size (.slice A n c) n xs) (hT : ∃ cur fz, w.heap[T]? = some (.cells cur e2 fz)) (hne : e ≠ e2) : (Value.slice A n c).ownBlock ≠ some T := by
  intro q
  obtain ⟨cur, fz, hc⟩ := hT
  rcases h.2 with ⟨h1, _⟩ | ⟨g, cap, cu, h1, _, h2, _⟩
  · injection h1 with h1; subst h1; cases q
  · injection h1 with h1 _
    subst h1
    obtain rfl : g = T := Option.some.inj q
    rw [hc] at h2
    injection h2 with h2
    injection h2 with _ h2 _
    exact hne h2.symm
theorem ty_below {w w' : World} {T : Nat} {e : TypeId} (hb : Below w.heap.size w w') (h : ∃ cur fz, w.heap[T]? = some (.cells cur e fz)) : ∃ cur fz, w'.heap[T]? = some (.cells cur e fz) := by
  obtain ⟨cur, fz, hc⟩ := h
  have hlt : T < w.heap.size := (Array.getElem?_eq_some_iff.1 hc).1
  exact ⟨cur, fz, (hb.block T hlt).trans hc⟩
theorem ty_gb {w w' : World} {T : Nat} {e : TypeId} {r : Option Nat} (hg : w.grownBy w' r) (hr : r ≠ some T) (h : ∃ cur fz, w.heap[T]? = some (.cells cur e fz)) : ∃ cur fz, w'.heap[T]? = some (.cells cur e fz) := by
  obtain ⟨cur, fz, hc⟩ := h
  have hlt : T < w.heap.size := (Array.getElem?_eq_some_iff.1 hc).1
  exact ⟨cur, fz, (hg.block T hlt (fun q => hr q.symm)).trans hc⟩
theorem ty_new (w : World) (cs : Array Value) (e : TypeId) : ∃ cur fz, (w.alloc (.cells cs e)).heap[w.heap.size]? = some (.cells cur e fz) := ⟨cs, (0, 0), by show (w.heap.push _)[w.heap.size]? = _; exact Array.getElem?_push_size⟩
def TZ (W : World) (T : Nat) (e : TypeId) : Prop := W.cell? ⟨T, 0, none⟩ = some (.int .i64 0) ∧ W.cell? ⟨T, 1, none⟩ = some (.slice none 0 0) ∧ (T < W.heap.size ∧ ∀ i, W.frozen? ⟨T, i, none⟩ = false) ∧ ∃ cur fz, W.heap[T]? = some (.cells cur e fz)
theorem TZ.new (w : World) (e : TypeId) : TZ (w.alloc (.cells #[.int .i64 0, .slice none 0 0] e)) w.heap.size e := ⟨by simp [go_sem], by simp [go_sem], ⟨by simp, by simp [go_sem]⟩, ty_new _ _ _⟩
theorem TZ.below {w w' : World} {T : Nat} {e : TypeId} (h : TZ w T e) (hb : Below w.heap.size w w') : TZ w' T e := ⟨keep_cell hb h.1, keep_cell hb h.2.1, keep_fre hb h.2.2.1, ty_below hb h.2.2.2⟩
theorem TZ.gb {w w' : World} {T : Nat} {e : TypeId} {r : Option Nat} (h : TZ w T e) (hg : w.grownBy w' r) (hr : r ≠ some T) : TZ w' T e := ⟨hg.cell h.1 (fun q => hr q.symm), hg.cell h.2.1 (fun q => hr q.symm), fre_gb h.2.2.1 hg (fun q => hr q.symm), ty_gb hg hr h.2.2.2⟩
end Go.Proofs.Ytbeojfhakmbacaa
namespace Go.Proofs.Ytbeojfhakmbacaa
open Go Go.RowKit
theorem sl_front {A : Option Addr} {n c i : Nat} (hA : A = none ∨ ∃ g, A = some ⟨g, 0, none⟩) (hi : i ≤ n) (hn : n ≤ c) (W : World) : (Instr.sliceAt 24 (.slice A n c) none (some (.int .i64 (i : Int))) none).run Try.prog W = .ok (.slice A i c) W := by
  have h1 : (i : Int) ≤ (c : Int) := by omega
  by_cases hc : c = 0
  · obtain rfl : i = 0 := by omega
    subst hc
    rcases hA with rfl | ⟨g, rfl⟩ <;> simp [go_sem, Addr.add]
  · rcases hA with rfl | ⟨g, rfl⟩ <;> simp [go_sem, *, Addr.add]
theorem sl_back {A : Option Addr} {n c i : Nat} (hi : i ≤ n) (hn : n ≤ c) (W : World) : (Instr.sliceAt 24 (.slice A n c) (some (.int .i64 (i : Int))) none none).run Try.prog W = .ok (.slice (if c = i then A else A.map (·.add (i * 10))) (n - i) (c - i)) W := by
  have h1 : (i : Int) ≤ (n : Int) := by omega
  by_cases hc : c = i <;> simp [go_sem, *]
theorem rd_back {w : World} {B n c i : Nat} {A : Option Addr} {xs : List Value} (h : Reads w B 10 A n xs) (hi : i ≤ n) (hn : n ≤ c) : Reads w B 10 (if c = i then A else A.map (·.add (i * 10))) (n - i) (xs.drop (i * 10)) := by
  by_cases hin : i = n
  · subst hin
    have hl := h.1
    rw [show i - i = 0 from by omega, List.drop_eq_nil_of_le (by omega)]
    exact Reads.none_back _
  · obtain ⟨ad, e, _⟩ := h.2 (by omega)
    subst e
    rw [if_neg (by omega)]
    exact h.back (by omega)
theorem back_nn {n c i : Nat} {A : Option Addr} (hA : A = none → n = 0) : (if c = i then A else A.map (·.add (i * 10))) = none → n - i = 0 := by
  intro e
  split at e
  · have := hA e; omega
  · cases A with
    | none => have := hA rfl; omega
    | some a => simp at e
theorem own_addr {w : World} {base : Nat} {e : TypeId} {size : Nat} {A : Option Addr} {c n : Nat} {xs : List Value} (h : w.ownsRow base e size (.slice A n c) n xs) : A = none ∨ ∃ g, A = some ⟨g, 0, none⟩ := by
  rcases h.2 with ⟨h1, _⟩ | ⟨g, cap, cur, h1, _⟩
  · injection h1 with h1; exact .inl h1
  · injection h1 with h1; exact .inr ⟨g, h1⟩
def rsK (t A K D : Int) (l : List Hd) : Bool := okR t (rcL t A K D l)
def rsM (t A K D : Int) (l : List Hd) : Int := if rsK t A K D l = true then t else 0
def rsV (t A K D : Int) (l : List Hd) : List Hd := if rsK t A K D l = true then rcL t A K D l else []
theorem rs_no {t A K D : Int} {l : List Hd} (h : okR t (rcL t A K D l) = false) : rsK t A K D l = false ∧ rsM t A K D l = 0 ∧ rsV t A K D l = [] := ⟨h, by unfold rsM rsK; rw [h]; rfl, by unfold rsV rsK; rw [h]; rfl⟩
theorem rs_yes {t A K D : Int} {l : List Hd} (h : okR t (rcL t A K D l) = true) : rsK t A K D l = true ∧ rsM t A K D l = t ∧ rsV t A K D l = rcL t A K D l := ⟨h, by unfold rsM rsK; rw [if_pos h], by unfold rsV rsK; rw [if_pos h]⟩
theorem run_sl {ρ : Operand → Value} {o : Oper} {t : TypeId} {x : Operand} {lo hi : Option Operand} (ho : o.op = .slice t x lo hi none) {X : Value} {LO HI : Option Value} (hx : ρ x = X) (hlo : lo.map ρ = LO) (hhi : hi.map ρ = HI) {v : Value} {w : World} (h : (Instr.sliceAt t X LO HI none).run Try.prog w = .ok v w) : (execOp ρ o).run Try.prog w = .ok (.value v) w := by
  unfold execOp
  rw [ho]
  simp [h, hx, hlo, hhi, Sem.run_bind]
theorem reads_alloc (w : World) (xs : List Value) (e : TypeId) : Reads (w.alloc (.cells xs.toArray e)) (w.alloc (.cells xs.toArray e)).heap.size xs.length (some ⟨w.heap.size, 0, none⟩) 1 xs := by
  refine ⟨by simp, fun _ => ⟨_, rfl, by simp, fun k v hk => ?_⟩⟩
  cases k with
  | zero => simp [Addr.add, go_sem, hk]
  | succ k => simp [Addr.add, go_sem, hk]
theorem reads_gb {w w' : World} {sz n : Nat} {A : Option Addr} {xs : List Value} {r : Option Nat} (h : Reads w w.heap.size sz A n xs) (hg : w.grownBy w' r) (hA : ∀ a, A = some a → r ≠ some a.block) : Reads w' w'.heap.size sz A n xs := by
  refine ⟨h.1, fun hn => ?_⟩
  obtain ⟨ad, e, hb, hc⟩ := h.2 hn
  exact ⟨ad, e, Nat.lt_of_lt_of_le hb hg.size, fun k v hk => hg.cell (hc k v hk) (by rw [block_of_add]; exact fun e2 => hA ad e e2.symm)⟩
theorem hds_take : ∀ (l : List Hd) (k : Nat), (hds l).take (k * 10) = hds (l.take k)
  | [], k => by simp [hds]
  | p :: l, 0 => rfl
  | p :: l, k + 1 => by
    rw [hds_cons, List.take_succ_cons, hds_cons, ← hds_take l k, show (k + 1) * 10 = (hdc p).length + k * 10 from by rw [hdc_len]; omega, List.take_length_add_append]
theorem hds_drop : ∀ (l : List Hd) (k : Nat), (hds l).drop (k * 10) = hds (l.drop k)
  | [], k => by simp [hds]
  | p :: l, 0 => rfl
  | p :: l, k + 1 => by
    rw [hds_cons, List.drop_succ_cons, ← hds_drop l k, show (k + 1) * 10 = (hdc p).length + k * 10 from by rw [hdc_len]; omega, List.drop_length_add_append]
theorem bub_flat (l : List Hd) (A : Int) (i : Nat) : (hds l).take (i * 10) ++ hdc (nwH A) ++ (hds l).drop (i * 10) = hds (bubL l A i) := by
  unfold bubL
  rw [hds_take, hds_drop, hds_app, hds_cons, List.append_assoc]
theorem sc_off {w : World} {g i j : Nat} {u v : Value} (h : j ≠ i) (q : w.cell? ⟨g, j, none⟩ = some u) : (w.setCell ⟨g, i, none⟩ v).cell? ⟨g, j, none⟩ = some u := by
  rw [World.cell?_setCell_other _ _ _ _ (by intro e; injection e with _ e1; exact h e1.symm)]; exact q
theorem sc_at {w : World} {p : Addr} {u v : Value} (q : w.cell? p = some u) : (w.setCell p v).cell? p = some v := cell_set_some (by rw [q]; rfl)
end Go.Proofs.Ytbeojfhakmbacaa
namespace Go.Proofs.Ytbeojfhakmbacaa
open Go.RowKit
set_option maxRecDepth 100000 in
set_option maxHeartbeats 16000000 in
theorem ReceiveAll_c (m : Int) (A : Option Addr) (c : Nat) (l : List Hd) (SA : Option Addr) (SC : Nat) (ls : List ByteArray) (t : Int) (w : World) (h1 : Hid (Reads w w.heap.size 10 A l.length (hds l))) (b1 : l.length ≤ 4000000) (h2 : Hid (Reads w w.heap.size 1 SA ls.length (strs ls))) (bs : ls.length ≤ 4000000) (hss : Hid (∀ s ∈ ls, s.size ≤ 1000000000000))  : Calls Try.prog 46 #[.agg #[.int .i64 m, .slice A l.length c], .slice SA ls.length SC, .int .i64 t] w (GivesS w 42 10 (raV m l ls t).length (hds (raV m l ls t)) (fun v => .tuple #[.agg #[.int .i64 (raM m l ls t), v], .int .i64 (raC m l ls t), .bool (raK m l ls t)])) := by
  rcases ho : okR m l with _ | _
  have HF := hide (ra_no (m := m) (l := l) (ls := ls) (t := t) (by unfold raK; rw [ho]; rfl))
  rotate_left
  by_cases h20 : 20 < ls.length
  have HF := hide (ra_no (m := m) (l := l) (ls := ls) (t := t) (by unfold raK; rw [decide_eq_false (by omega)]; simp))
  have hq20 : decide ((20 : Int) < (ls.length : Int)) = true := decide_eq_true (by omega)
  rotate_left
  have hl20 : ls.length ≤ 20 := by omega
  clear h20
  have hq20 : decide ((20 : Int) < (ls.length : Int)) = false := decide_eq_false (by omega)
  rcases kt : wi t 0 9999 with _ | _
  have HF := hide (ra_no (m := m) (l := l) (ls := ls) (t := t) (by unfold raK; rw [kt]; simp))
  rotate_left
  by_cases hmt : t < m
  have HF := hide (ra_no (m := m) (l := l) (ls := ls) (t := t) (by unfold raK; rw [decide_eq_false (show ¬ m ≤ t by omega)]; simp))
  rotate_left
  · have HRK := hide (show raK m l ls t = true from by unfold raK; rw [ho, kt, decide_eq_true hl20, decide_eq_true (show m ≤ t by omega)]; rfl)
    have HOK := hide ho
    have hq : decide (t < m) = false := decide_eq_false hmt
    have h6 := (okR_iff ho).2.1
    clear hmt
    obtain ⟨i0, hi0, iz0, iy0, ix0⟩ := info_parts infoHd
    go_enter Try.func46, Try.ntmps46
    go_upto_region 3 with (first | (go_at_call 18; refine (validRecv_c _ _ _ l _ (hide (by refine reads_below h1.out ?_; go_grown)) b1).mono ?_; rintro e w1 ⟨rfl, hb⟩; have hT : w1.cell? ⟨w.heap.size, 0, none⟩ = some (.int .i64 m) ∧ w1.cell? ⟨w.heap.size, 1, none⟩ = some (.slice A l.length c) ∧ w1.cell? ⟨w.heap.size + 1, 0, none⟩ = some (.int .i64 0) ∧ w1.cell? ⟨w.heap.size + 1, 1, none⟩ = some (.slice none 0 0) ∧ (w.heap.size + 1 < w1.heap.size ∧ ∀ i, w1.frozen? ⟨w.heap.size + 1, i, none⟩ = false) ∧ Below w.heap.size w w1 := (fun W h hb => ⟨keep_cell (hb) h.1, keep_cell (hb) h.2.1, keep_cell (hb) h.2.2.1, keep_cell (hb) h.2.2.2.1, keep_fre (hb) h.2.2.2.2.1, below_via h.2.2.2.2.2 (hb)⟩ : ∀ W : World, (W.cell? ⟨w.heap.size, 0, none⟩ = some (.int .i64 m) ∧ W.cell? ⟨w.heap.size, 1, none⟩ = some (.slice A l.length c) ∧ W.cell? ⟨w.heap.size + 1, 0, none⟩ = some (.int .i64 0) ∧ W.cell? ⟨w.heap.size + 1, 1, none⟩ = some (.slice none 0 0) ∧ (w.heap.size + 1 < W.heap.size ∧ ∀ i, W.frozen? ⟨w.heap.size + 1, i, none⟩ = false) ∧ Below w.heap.size w W) → Below W.heap.size W w1 → (w1.cell? ⟨w.heap.size, 0, none⟩ = some (.int .i64 m) ∧ w1.cell? ⟨w.heap.size, 1, none⟩ = some (.slice A l.length c) ∧ w1.cell? ⟨w.heap.size + 1, 0, none⟩ = some (.int .i64 0) ∧ w1.cell? ⟨w.heap.size + 1, 1, none⟩ = some (.slice none 0 0) ∧ (w.heap.size + 1 < w1.heap.size ∧ ∀ i, w1.frozen? ⟨w.heap.size + 1, i, none⟩ = false) ∧ Below w.heap.size w w1)) _ (by first | (with_reducible assumption) | (exact hS) | (exact ⟨hS.1, hS.2.1, hS.2.2.1, hS.2.2.2.1, hS.2.2.2.2.1, (by go_grown)⟩) | (exact ⟨(by first | (with_reducible assumption) | (simp [go_sem]; done) | ((simp only [go_sem]); (with_reducible assumption)) | ((refine keep_cell ?_ (by with_reducible assumption)); go_grown; done) | (simp [go_sem, *]; done)), (by first | (with_reducible assumption) | (simp [go_sem]; done) | ((simp only [go_sem]); (with_reducible assumption)) | ((refine keep_cell ?_ (by with_reducible assumption)); go_grown; done) | (simp [go_sem, *]; done)), (by first | (with_reducible assumption) | (simp [go_sem]; done) | ((simp only [go_sem]); (with_reducible assumption)) | ((refine keep_cell ?_ (by with_reducible assumption)); go_grown; done) | (simp [go_sem, *]; done)), (by first | (with_reducible assumption) | (simp [go_sem]; done) | ((simp only [go_sem]); (with_reducible assumption)) | ((refine keep_cell ?_ (by with_reducible assumption)); go_grown; done) | (simp [go_sem, *]; done)), (by first | (with_reducible assumption) | (simp [go_sem]; done) | (refine keep_fre ?_ ⟨by with_reducible assumption, by with_reducible assumption⟩; go_grown; done) | (simp [go_sem, *]; done)), (by go_grown)⟩)) hb; (try clear hS); have hS := hT; clear hT; have hB := hS.2.2.2.2.2; have hzw : w.heap.size ≤ w1.heap.size := hB.size; have hz1 : w.heap.size < w1.heap.size := World.block_lt_of_cell? w1 _ (hS.1); have hz2 : w.heap.size + 1 < w1.heap.size := World.block_lt_of_cell? w1 _ (hS.2.2.1); clear hb) | (go_at_call 61; refine (isMinute_c _ _).mono ?_; rintro e w1 ⟨rfl, rfl⟩))
    clear ho kt hq hq20
    go_cut [9] (fun pv wx => ∃ (T : Nat) (A3 : Option Addr) (c3 : Nat), pv = .pointer (some ⟨T, 0, none⟩) ∧ w.heap.size + 1 < T ∧ (Value.slice A3 l.length c3).ownBlock ≠ some T ∧ Hid (wx.ownsRow (w.heap.size + 2) 42 10 (.slice A3 l.length c3) l.length (hds l)) ∧ (wx.cell? ⟨w.heap.size + 1, 0, none⟩ = some (.int .i64 0) ∧ wx.cell? ⟨w.heap.size + 1, 1, none⟩ = some (.slice none 0 0) ∧ (w.heap.size + 1 < wx.heap.size ∧ ∀ i, wx.frozen? ⟨w.heap.size + 1, i, none⟩ = false) ∧ wx.cell? ⟨T, 0, none⟩ = some (.int .i64 m) ∧ wx.cell? ⟨T, 1, none⟩ = some (.slice A3 l.length c3) ∧ (T < wx.heap.size ∧ ∀ i, wx.frozen? ⟨T, i, none⟩ = false) ∧ Below w.heap.size w wx))
    case first =>
      refine wp_region_all (by kernel_rfl) ?_
      obtain ⟨W0, hW0⟩ : ∃ W, World.drew w1 = W := ⟨_, rfl⟩
      rw [hW0]
      have hcw : Below w1.heap.size w1 W0 := by rw [← hW0]; go_grown
      have hB1 := below_via hB hcw
      have HR0 := hide ((h1.out.below hB1).more hB1.size)
      have HS0 := hide (show W0.cell? ⟨w.heap.size, 0, none⟩ = some (.int .i64 m) ∧ W0.cell? ⟨w.heap.size, 1, none⟩ = some (.slice A l.length c) ∧ W0.cell? ⟨w.heap.size + 1, 0, none⟩ = some (.int .i64 0) ∧ W0.cell? ⟨w.heap.size + 1, 1, none⟩ = some (.slice none 0 0) ∧ (w.heap.size + 1 < W0.heap.size ∧ ∀ i, W0.frozen? ⟨w.heap.size + 1, i, none⟩ = false) ∧ Below w.heap.size w W0 from ⟨keep_cell hcw (hS.1), keep_cell hcw (hS.2.1), keep_cell hcw (hS.2.2.1), keep_cell hcw (hS.2.2.2.1), keep_fre hcw (hS.2.2.2.2.1), hB1⟩)
      have hwW : w.heap.size + 1 < W0.heap.size := (HS0.out.2.2.2.2.1).1
      have hn0 : A = none → l.length = 0 := fun e => reads_nn HR0.out e
      have hS7 : W0.cell? ⟨w.heap.size, 0, none⟩ = some (.int .i64 m) ∧ W0.cell? ⟨w.heap.size, 1, none⟩ = some (.slice A l.length c) ∧ Below W0.heap.size W0 W0 := ⟨HS0.out.1, HS0.out.2.1, Below.refl _ _⟩
      clear hS hB hcw hB1 hW0 hzw
      (try clear hz1)
      (try clear hz2)
      have hS := hS7
      clear hS7
      have hB := hS.2.2
      refine all_split 7 2 (by decide) ?_ ?_
      · refine all_seq_core [0, 1, 3, 4, 7, 2, 5, 6, 8] (fun W => W.cell? ⟨w.heap.size, 0, none⟩ = some (.int .i64 m) ∧ W.cell? ⟨w.heap.size, 1, none⟩ = some (.slice A l.length c) ∧ Below W0.heap.size W0 W) (addE_core 7 2 _) (by kernel_rfl) hS ?_
        simp only [byNum, List.getElem?_cons_zero, List.getElem?_cons_succ]
        repeat (first
          | ((refine seq_skip (by rfl) (by rfl) ?_); simp only [Act.put, pa, pb, pc])
          | ((refine seq_val (v := ?_) (by rfl) (by rfl) (fun w hS => ?_) ?_); rotate_left; (focus ((try dsimp only at hS); go_simp; (try (with_reducible rfl)); done)); simp only [Act.put, pa, pb, pc]))
        refine seq_deed (v := ?_) (w' := ?_) (by rfl) (by rfl) ?_ ?_
        rotate_left
        rotate_left
        focus (go_simp; (constructor <;> (with_reducible rfl)); done)
        obtain ⟨X1, hX1⟩ : ∃ X, World.alloc W0 (.cells #[.int .i64 0, .slice none 0 0] 26) = X := ⟨_, rfl⟩
        rw [hX1]
        have hbx : Below W0.heap.size W0 X1 := by rw [← hX1]; go_grown
        have hlT : W0.heap.size ≤ W0.heap.size := hB.size
        have hmT : W0.heap.size < X1.heap.size := by rw [← hX1]; simp
        have HT9 := hide (show TZ X1 W0.heap.size 26 from by rw [← hX1]; exact TZ.new _ _)
        have hS2 : X1.cell? ⟨w.heap.size, 0, none⟩ = some (.int .i64 m) ∧ X1.cell? ⟨w.heap.size, 1, none⟩ = some (.slice A l.length c) ∧ Below W0.heap.size W0 X1 := ⟨keep_cell hbx (hS.1), keep_cell hbx (hS.2.1), below_via hB hbx⟩
        clear hS hB
        have hS := hS2
        clear hS2
        have hB := hS.2.2
        clear hbx
        clear hX1
        have HT := HT9
        clear HT9
        refine ⟨(fun W => W.cell? ⟨w.heap.size, 0, none⟩ = some (.int .i64 m) ∧ W.cell? ⟨w.heap.size, 1, none⟩ = some (.slice A l.length c) ∧ Below W0.heap.size W0 W), hS, (fun W h => h), ?_⟩
        simp only [Act.put, pa, pb, pc]
        repeat (first
          | ((refine seq_skip (by rfl) (by rfl) ?_); simp only [Act.put, pa, pb, pc])
          | ((refine seq_val (v := ?_) (by rfl) (by rfl) (fun w hS => ?_) ?_); rotate_left; (focus ((try dsimp only at hS); go_simp; (try (with_reducible rfl)); done)); simp only [Act.put, pa, pb, pc]))
        refine seq_deed (v := ?_) (w' := ?_) (by rfl) (by rfl) ?_ ?_
        rotate_left
        rotate_left
        focus (go_simp; (constructor <;> (with_reducible rfl)); done)
        obtain ⟨X2, hX2⟩ : ∃ X, World.alloc X1 (.cells #[] 42) = X := ⟨_, rfl⟩
        rw [hX2]
        have hbx : Below X1.heap.size X1 X2 := by rw [← hX2]; go_grown
        have hlE : W0.heap.size ≤ X1.heap.size := hB.size
        have hmE : X1.heap.size < X2.heap.size := by rw [← hX2]; simp
        have HO9 := hide (show X2.ownsRow W0.heap.size 42 10 (.slice (some ⟨X1.heap.size, 0, none⟩) 0 0) 0 [] from by rw [← hX2]; exact own_empty _ rfl hlE)
        have HTb := hide (HT.out.below hbx)
        clear HT
        have HT := HTb
        clear HTb
        have hS2 : X2.cell? ⟨w.heap.size, 0, none⟩ = some (.int .i64 m) ∧ X2.cell? ⟨w.heap.size, 1, none⟩ = some (.slice A l.length c) ∧ Below W0.heap.size W0 X2 := ⟨keep_cell hbx (hS.1), keep_cell hbx (hS.2.1), below_via hB hbx⟩
        clear hS hB
        have hS := hS2
        clear hS2
        have hB := hS.2.2
        clear hbx
        clear hX2
        have HO := HO9
        clear HO9
        refine ⟨(fun W => W.cell? ⟨w.heap.size, 0, none⟩ = some (.int .i64 m) ∧ W.cell? ⟨w.heap.size, 1, none⟩ = some (.slice A l.length c) ∧ Below W0.heap.size W0 W), hS, (fun W h => h), ?_⟩
        simp only [Act.put, pa, pb, pc]
        repeat (first
          | ((refine seq_skip (by rfl) (by rfl) ?_); simp only [Act.put, pa, pb, pc])
          | ((refine seq_val (v := ?_) (by rfl) (by rfl) (fun w hS => ?_) ?_); rotate_left; (focus ((try dsimp only at hS); go_simp; (try (with_reducible rfl)); done)); simp only [Act.put, pa, pb, pc]))
        refine seq_append _ (by rfl) (by rfl) _ _ 24 (by rfl) W0.heap.size 42 i0 (hdV nHd) 10 80 Try.underlying24 hi0 iz0 iy0 ix0 rfl (by decide) _ 0 [] (by rfl) HO.out X2.heap.size A l.length c (hds l) (by rfl) (reads_below HR0.out hB) hn0 (hds_one l) (by unfold maxLen; omega) (by omega) hB.size ?_
        intro A3 c3 X3 hown1 hgrow
        rw [Nat.zero_add, List.nil_append] at hown1
        rw [Nat.zero_add]
        have HTb := hide (HT.out.gb hgrow (ne_some (show X1.heap.size ≠ W0.heap.size by omega)))
        clear HT
        have HT := HTb
        clear HTb
        have hS2 : X3.cell? ⟨w.heap.size, 0, none⟩ = some (.int .i64 m) ∧ X3.cell? ⟨w.heap.size, 1, none⟩ = some (.slice A l.length c) ∧ Below W0.heap.size W0 X3 := ⟨own_cell HO.out hgrow (hS.1) (by show w.heap.size < W0.heap.size; omega), own_cell HO.out hgrow (hS.2.1) (by show w.heap.size < W0.heap.size; omega), own_grown HO.out hgrow hB hB.size (Nat.le_refl _)⟩
        clear hS hB
        have hS := hS2
        clear hS2
        have hB := hS.2.2
        clear hgrow HO
        have HO := hide hown1
        clear hown1
        refine ⟨(fun W => W.cell? ⟨w.heap.size, 0, none⟩ = some (.int .i64 m) ∧ W.cell? ⟨w.heap.size, 1, none⟩ = some (.slice A l.length c) ∧ Below W0.heap.size W0 W), hS, (fun W h => h), ?_⟩
        simp only [Act.put, pa, pb, pc]
        repeat (first
          | ((refine seq_skip (by rfl) (by rfl) ?_); simp only [Act.put, pa, pb, pc])
          | ((refine seq_val (v := ?_) (by rfl) (by rfl) (fun w hS => ?_) ?_); rotate_left; (focus ((try dsimp only at hS); go_simp; (try (with_reducible rfl)); done)); simp only [Act.put, pa, pb, pc]))
        have hTn : (Value.slice A3 l.length c3).ownBlock ≠ some W0.heap.size := ty_ne HO.out HT.out.2.2.2 (by decide)
        have hBq := hB
        obtain ⟨X9, hX9⟩ : ∃ X, (X3.setCell ⟨W0.heap.size, 0, none⟩ (.int .i64 m)).setCell ⟨W0.heap.size, 1, none⟩ (.slice A3 l.length c3) = X := ⟨_, rfl⟩
        obtain ⟨y0, y1, ⟨y2, y3⟩, _⟩ := HT.out
        refine seq_store (w' := X9) (by rfl) (by rfl) (by rw [← hX9]; go_simp; (try (with_reducible rfl)); done) ?_
        have hS2 : X9.cell? ⟨w.heap.size, 0, none⟩ = some (.int .i64 m) ∧ X9.cell? ⟨w.heap.size, 1, none⟩ = some (.slice A l.length c) ∧ Below W0.heap.size W0 X9 := ⟨(by rw [← hX9]; exact sc _ (by omega) (sc _ (by omega) (hS.1))), (by rw [← hX9]; exact sc _ (by omega) (sc _ (by omega) (hS.2.1))), (by rw [← hX9]; exact (hB.setCell (p := ⟨W0.heap.size, 0, none⟩) (by show _ ≤ W0.heap.size; omega) _).setCell (p := ⟨W0.heap.size, 1, none⟩) (by show _ ≤ W0.heap.size; omega) _)⟩
        clear hS hB
        have hS := hS2
        clear hS2
        have hB := hS.2.2
        refine ⟨(fun W => W.cell? ⟨w.heap.size, 0, none⟩ = some (.int .i64 m) ∧ W.cell? ⟨w.heap.size, 1, none⟩ = some (.slice A l.length c) ∧ Below W0.heap.size W0 W), hS, (fun W h => h), ?_⟩
        simp only [Act.put, pa, pb, pc]
        repeat (first
          | ((refine seq_skip (by rfl) (by rfl) ?_); simp only [Act.put, pa, pb, pc])
          | ((refine seq_val (v := ?_) (by rfl) (by rfl) (fun w hS => ?_) ?_); rotate_left; (focus ((try dsimp only at hS); go_simp; (try (with_reducible rfl)); done)); simp only [Act.put, pa, pb, pc]))
        refine seq_nil ?_
        go_wp2_with fail
        go_meet
        case rel => exact ⟨W0.heap.size, A3, c3, rfl, by omega, hTn, hide (by rw [← hX9]; exact ownsRow_setCell_other (ownsRow_setCell_other (own_mono HO.out (by omega)) (a := ⟨W0.heap.size, 0, none⟩) hTn _) (a := ⟨W0.heap.size, 1, none⟩) hTn _), (by rw [← hX9]; exact ⟨sc _ (by omega) (sc _ (by omega) (keep_cell hBq (HS0.out.2.2.1))), sc _ (by omega) (sc _ (by omega) (keep_cell hBq (HS0.out.2.2.2.1))), sf _ (sf _ (keep_fre hBq (HS0.out.2.2.2.2.1))), sc_off (by omega) (sc_at y0), sc_at (sc_off (by omega) y1), sf _ (sf _ ⟨y2, y3⟩), ((below_via (HS0.out.2.2.2.2.2) hBq).setCell (p := ⟨W0.heap.size, 0, none⟩) (by show _ ≤ W0.heap.size; omega) _).setCell (p := ⟨W0.heap.size, 1, none⟩) (by show _ ≤ W0.heap.size; omega) _⟩)⟩
      · refine all_split 7 5 (by decide) ?_ ?_
        · refine all_seq_core [0, 1, 3, 4, 2, 7, 5, 6, 8] (fun W => W.cell? ⟨w.heap.size, 0, none⟩ = some (.int .i64 m) ∧ W.cell? ⟨w.heap.size, 1, none⟩ = some (.slice A l.length c) ∧ Below W0.heap.size W0 W) (Core.trans (addE_core 2 7 _) (addE_core 7 5 _)) (by kernel_rfl) hS ?_
          simp only [byNum, List.getElem?_cons_zero, List.getElem?_cons_succ]
          repeat (first
            | ((refine seq_skip (by rfl) (by rfl) ?_); simp only [Act.put, pa, pb, pc])
            | ((refine seq_val (v := ?_) (by rfl) (by rfl) (fun w hS => ?_) ?_); rotate_left; (focus ((try dsimp only at hS); go_simp; (try (with_reducible rfl)); done)); simp only [Act.put, pa, pb, pc]))
          refine seq_deed (v := ?_) (w' := ?_) (by rfl) (by rfl) ?_ ?_
          rotate_left
          rotate_left
          focus (go_simp; (constructor <;> (with_reducible rfl)); done)
          obtain ⟨X1, hX1⟩ : ∃ X, World.alloc W0 (.cells #[] 42) = X := ⟨_, rfl⟩
          rw [hX1]
          have hbx : Below W0.heap.size W0 X1 := by rw [← hX1]; go_grown
          have hlE : W0.heap.size ≤ W0.heap.size := hB.size
          have hmE : W0.heap.size < X1.heap.size := by rw [← hX1]; simp
          have HO9 := hide (show X1.ownsRow W0.heap.size 42 10 (.slice (some ⟨W0.heap.size, 0, none⟩) 0 0) 0 [] from by rw [← hX1]; exact own_empty _ rfl hlE)
          have hS2 : X1.cell? ⟨w.heap.size, 0, none⟩ = some (.int .i64 m) ∧ X1.cell? ⟨w.heap.size, 1, none⟩ = some (.slice A l.length c) ∧ Below W0.heap.size W0 X1 := ⟨keep_cell hbx (hS.1), keep_cell hbx (hS.2.1), below_via hB hbx⟩
          clear hS hB
          have hS := hS2
          clear hS2
          have hB := hS.2.2
          clear hbx
          clear hX1
          have HO := HO9
          clear HO9
          refine ⟨(fun W => W.cell? ⟨w.heap.size, 0, none⟩ = some (.int .i64 m) ∧ W.cell? ⟨w.heap.size, 1, none⟩ = some (.slice A l.length c) ∧ Below W0.heap.size W0 W), hS, (fun W h => h), ?_⟩
          simp only [Act.put, pa, pb, pc]
          repeat (first
            | ((refine seq_skip (by rfl) (by rfl) ?_); simp only [Act.put, pa, pb, pc])
            | ((refine seq_val (v := ?_) (by rfl) (by rfl) (fun w hS => ?_) ?_); rotate_left; (focus ((try dsimp only at hS); go_simp; (try (with_reducible rfl)); done)); simp only [Act.put, pa, pb, pc]))
          refine seq_deed (v := ?_) (w' := ?_) (by rfl) (by rfl) ?_ ?_
          rotate_left
          rotate_left
          focus (go_simp; (constructor <;> (with_reducible rfl)); done)
          obtain ⟨X2, hX2⟩ : ∃ X, World.alloc X1 (.cells #[.int .i64 0, .slice none 0 0] 26) = X := ⟨_, rfl⟩
          rw [hX2]
          have hbx : Below X1.heap.size X1 X2 := by rw [← hX2]; go_grown
          have hlT : W0.heap.size ≤ X1.heap.size := hB.size
          have hmT : X1.heap.size < X2.heap.size := by rw [← hX2]; simp
          have HT9 := hide (show TZ X2 X1.heap.size 26 from by rw [← hX2]; exact TZ.new _ _)
          have HOb := hide (own_below HO.out hbx)
          clear HO
          have HO := HOb
          clear HOb
          have hS2 : X2.cell? ⟨w.heap.size, 0, none⟩ = some (.int .i64 m) ∧ X2.cell? ⟨w.heap.size, 1, none⟩ = some (.slice A l.length c) ∧ Below W0.heap.size W0 X2 := ⟨keep_cell hbx (hS.1), keep_cell hbx (hS.2.1), below_via hB hbx⟩
          clear hS hB
          have hS := hS2
          clear hS2
          have hB := hS.2.2
          clear hbx
          clear hX2
          have HT := HT9
          clear HT9
          refine ⟨(fun W => W.cell? ⟨w.heap.size, 0, none⟩ = some (.int .i64 m) ∧ W.cell? ⟨w.heap.size, 1, none⟩ = some (.slice A l.length c) ∧ Below W0.heap.size W0 W), hS, (fun W h => h), ?_⟩
          simp only [Act.put, pa, pb, pc]
          repeat (first
            | ((refine seq_skip (by rfl) (by rfl) ?_); simp only [Act.put, pa, pb, pc])
            | ((refine seq_val (v := ?_) (by rfl) (by rfl) (fun w hS => ?_) ?_); rotate_left; (focus ((try dsimp only at hS); go_simp; (try (with_reducible rfl)); done)); simp only [Act.put, pa, pb, pc]))
          refine seq_append _ (by rfl) (by rfl) _ _ 24 (by rfl) W0.heap.size 42 i0 (hdV nHd) 10 80 Try.underlying24 hi0 iz0 iy0 ix0 rfl (by decide) _ 0 [] (by rfl) HO.out X2.heap.size A l.length c (hds l) (by rfl) (reads_below HR0.out hB) hn0 (hds_one l) (by unfold maxLen; omega) (by omega) hB.size ?_
          intro A3 c3 X3 hown1 hgrow
          rw [Nat.zero_add, List.nil_append] at hown1
          rw [Nat.zero_add]
          have HTb := hide (HT.out.gb hgrow (ne_some (show W0.heap.size ≠ X1.heap.size by omega)))
          clear HT
          have HT := HTb
          clear HTb
          have hS2 : X3.cell? ⟨w.heap.size, 0, none⟩ = some (.int .i64 m) ∧ X3.cell? ⟨w.heap.size, 1, none⟩ = some (.slice A l.length c) ∧ Below W0.heap.size W0 X3 := ⟨own_cell HO.out hgrow (hS.1) (by show w.heap.size < W0.heap.size; omega), own_cell HO.out hgrow (hS.2.1) (by show w.heap.size < W0.heap.size; omega), own_grown HO.out hgrow hB hB.size (Nat.le_refl _)⟩
          clear hS hB
          have hS := hS2
          clear hS2
          have hB := hS.2.2
          clear hgrow HO
          have HO := hide hown1
          clear hown1
          refine ⟨(fun W => W.cell? ⟨w.heap.size, 0, none⟩ = some (.int .i64 m) ∧ W.cell? ⟨w.heap.size, 1, none⟩ = some (.slice A l.length c) ∧ Below W0.heap.size W0 W), hS, (fun W h => h), ?_⟩
          simp only [Act.put, pa, pb, pc]
          repeat (first
            | ((refine seq_skip (by rfl) (by rfl) ?_); simp only [Act.put, pa, pb, pc])
            | ((refine seq_val (v := ?_) (by rfl) (by rfl) (fun w hS => ?_) ?_); rotate_left; (focus ((try dsimp only at hS); go_simp; (try (with_reducible rfl)); done)); simp only [Act.put, pa, pb, pc]))
          have hTn : (Value.slice A3 l.length c3).ownBlock ≠ some X1.heap.size := ty_ne HO.out HT.out.2.2.2 (by decide)
          have hBq := hB
          obtain ⟨X9, hX9⟩ : ∃ X, (X3.setCell ⟨X1.heap.size, 0, none⟩ (.int .i64 m)).setCell ⟨X1.heap.size, 1, none⟩ (.slice A3 l.length c3) = X := ⟨_, rfl⟩
          obtain ⟨y0, y1, ⟨y2, y3⟩, _⟩ := HT.out
          refine seq_store (w' := X9) (by rfl) (by rfl) (by rw [← hX9]; go_simp; (try (with_reducible rfl)); done) ?_
          have hS2 : X9.cell? ⟨w.heap.size, 0, none⟩ = some (.int .i64 m) ∧ X9.cell? ⟨w.heap.size, 1, none⟩ = some (.slice A l.length c) ∧ Below W0.heap.size W0 X9 := ⟨(by rw [← hX9]; exact sc _ (by omega) (sc _ (by omega) (hS.1))), (by rw [← hX9]; exact sc _ (by omega) (sc _ (by omega) (hS.2.1))), (by rw [← hX9]; exact (hB.setCell (p := ⟨X1.heap.size, 0, none⟩) (by show _ ≤ X1.heap.size; omega) _).setCell (p := ⟨X1.heap.size, 1, none⟩) (by show _ ≤ X1.heap.size; omega) _)⟩
          clear hS hB
          have hS := hS2
          clear hS2
          have hB := hS.2.2
          refine ⟨(fun W => W.cell? ⟨w.heap.size, 0, none⟩ = some (.int .i64 m) ∧ W.cell? ⟨w.heap.size, 1, none⟩ = some (.slice A l.length c) ∧ Below W0.heap.size W0 W), hS, (fun W h => h), ?_⟩
          simp only [Act.put, pa, pb, pc]
          repeat (first
            | ((refine seq_skip (by rfl) (by rfl) ?_); simp only [Act.put, pa, pb, pc])
            | ((refine seq_val (v := ?_) (by rfl) (by rfl) (fun w hS => ?_) ?_); rotate_left; (focus ((try dsimp only at hS); go_simp; (try (with_reducible rfl)); done)); simp only [Act.put, pa, pb, pc]))
          refine seq_nil ?_
          go_wp2_with fail
          go_meet
          case rel => exact ⟨X1.heap.size, A3, c3, rfl, by omega, hTn, hide (by rw [← hX9]; exact ownsRow_setCell_other (ownsRow_setCell_other (own_mono HO.out (by omega)) (a := ⟨X1.heap.size, 0, none⟩) hTn _) (a := ⟨X1.heap.size, 1, none⟩) hTn _), (by rw [← hX9]; exact ⟨sc _ (by omega) (sc _ (by omega) (keep_cell hBq (HS0.out.2.2.1))), sc _ (by omega) (sc _ (by omega) (keep_cell hBq (HS0.out.2.2.2.1))), sf _ (sf _ (keep_fre hBq (HS0.out.2.2.2.2.1))), sc_off (by omega) (sc_at y0), sc_at (sc_off (by omega) y1), sf _ (sf _ ⟨y2, y3⟩), ((below_via (HS0.out.2.2.2.2.2) hBq).setCell (p := ⟨X1.heap.size, 0, none⟩) (by show _ ≤ X1.heap.size; omega) _).setCell (p := ⟨X1.heap.size, 1, none⟩) (by show _ ≤ X1.heap.size; omega) _⟩)⟩
        · refine all_seq_core [0, 1, 3, 4, 2, 5, 6, 7, 8] (fun W => W.cell? ⟨w.heap.size, 0, none⟩ = some (.int .i64 m) ∧ W.cell? ⟨w.heap.size, 1, none⟩ = some (.slice A l.length c) ∧ Below W0.heap.size W0 W) (Core.trans (addE_core 2 7 _) (addE_core 5 7 _)) (by kernel_rfl) hS ?_
          simp only [byNum, List.getElem?_cons_zero, List.getElem?_cons_succ]
          repeat (first
            | ((refine seq_skip (by rfl) (by rfl) ?_); simp only [Act.put, pa, pb, pc])
            | ((refine seq_val (v := ?_) (by rfl) (by rfl) (fun w hS => ?_) ?_); rotate_left; (focus ((try dsimp only at hS); go_simp; (try (with_reducible rfl)); done)); simp only [Act.put, pa, pb, pc]))
          refine seq_deed (v := ?_) (w' := ?_) (by rfl) (by rfl) ?_ ?_
          rotate_left
          rotate_left
          focus (go_simp; (constructor <;> (with_reducible rfl)); done)
          obtain ⟨X1, hX1⟩ : ∃ X, World.alloc W0 (.cells #[] 42) = X := ⟨_, rfl⟩
          rw [hX1]
          have hbx : Below W0.heap.size W0 X1 := by rw [← hX1]; go_grown
          have hlE : W0.heap.size ≤ W0.heap.size := hB.size
          have hmE : W0.heap.size < X1.heap.size := by rw [← hX1]; simp
          have HO9 := hide (show X1.ownsRow W0.heap.size 42 10 (.slice (some ⟨W0.heap.size, 0, none⟩) 0 0) 0 [] from by rw [← hX1]; exact own_empty _ rfl hlE)
          have hS2 : X1.cell? ⟨w.heap.size, 0, none⟩ = some (.int .i64 m) ∧ X1.cell? ⟨w.heap.size, 1, none⟩ = some (.slice A l.length c) ∧ Below W0.heap.size W0 X1 := ⟨keep_cell hbx (hS.1), keep_cell hbx (hS.2.1), below_via hB hbx⟩
          clear hS hB
          have hS := hS2
          clear hS2
          have hB := hS.2.2
          clear hbx
          clear hX1
          have HO := HO9
          clear HO9
          refine ⟨(fun W => W.cell? ⟨w.heap.size, 0, none⟩ = some (.int .i64 m) ∧ W.cell? ⟨w.heap.size, 1, none⟩ = some (.slice A l.length c) ∧ Below W0.heap.size W0 W), hS, (fun W h => h), ?_⟩
          simp only [Act.put, pa, pb, pc]
          repeat (first
            | ((refine seq_skip (by rfl) (by rfl) ?_); simp only [Act.put, pa, pb, pc])
            | ((refine seq_val (v := ?_) (by rfl) (by rfl) (fun w hS => ?_) ?_); rotate_left; (focus ((try dsimp only at hS); go_simp; (try (with_reducible rfl)); done)); simp only [Act.put, pa, pb, pc]))
          refine seq_append _ (by rfl) (by rfl) _ _ 24 (by rfl) W0.heap.size 42 i0 (hdV nHd) 10 80 Try.underlying24 hi0 iz0 iy0 ix0 rfl (by decide) _ 0 [] (by rfl) HO.out X1.heap.size A l.length c (hds l) (by rfl) (reads_below HR0.out hB) hn0 (hds_one l) (by unfold maxLen; omega) (by omega) hB.size ?_
          intro A3 c3 X2 hown1 hgrow
          rw [Nat.zero_add, List.nil_append] at hown1
          rw [Nat.zero_add]
          have hS2 : X2.cell? ⟨w.heap.size, 0, none⟩ = some (.int .i64 m) ∧ X2.cell? ⟨w.heap.size, 1, none⟩ = some (.slice A l.length c) ∧ Below W0.heap.size W0 X2 := ⟨own_cell HO.out hgrow (hS.1) (by show w.heap.size < W0.heap.size; omega), own_cell HO.out hgrow (hS.2.1) (by show w.heap.size < W0.heap.size; omega), own_grown HO.out hgrow hB hB.size (Nat.le_refl _)⟩
          clear hS hB
          have hS := hS2
          clear hS2
          have hB := hS.2.2
          clear hgrow HO
          have HO := hide hown1
          clear hown1
          refine ⟨(fun W => W.cell? ⟨w.heap.size, 0, none⟩ = some (.int .i64 m) ∧ W.cell? ⟨w.heap.size, 1, none⟩ = some (.slice A l.length c) ∧ Below W0.heap.size W0 W), hS, (fun W h => h), ?_⟩
          simp only [Act.put, pa, pb, pc]
          repeat (first
            | ((refine seq_skip (by rfl) (by rfl) ?_); simp only [Act.put, pa, pb, pc])
            | ((refine seq_val (v := ?_) (by rfl) (by rfl) (fun w hS => ?_) ?_); rotate_left; (focus ((try dsimp only at hS); go_simp; (try (with_reducible rfl)); done)); simp only [Act.put, pa, pb, pc]))
          refine seq_deed (v := ?_) (w' := ?_) (by rfl) (by rfl) ?_ ?_
          rotate_left
          rotate_left
          focus (go_simp; (constructor <;> (with_reducible rfl)); done)
          obtain ⟨X3, hX3⟩ : ∃ X, World.alloc X2 (.cells #[.int .i64 0, .slice none 0 0] 26) = X := ⟨_, rfl⟩
          rw [hX3]
          have hbx : Below X2.heap.size X2 X3 := by rw [← hX3]; go_grown
          have hlT : W0.heap.size ≤ X2.heap.size := hB.size
          have hmT : X2.heap.size < X3.heap.size := by rw [← hX3]; simp
          have HT9 := hide (show TZ X3 X2.heap.size 26 from by rw [← hX3]; exact TZ.new _ _)
          have HOb := hide (own_below HO.out hbx)
          clear HO
          have HO := HOb
          clear HOb
          have hS2 : X3.cell? ⟨w.heap.size, 0, none⟩ = some (.int .i64 m) ∧ X3.cell? ⟨w.heap.size, 1, none⟩ = some (.slice A l.length c) ∧ Below W0.heap.size W0 X3 := ⟨keep_cell hbx (hS.1), keep_cell hbx (hS.2.1), below_via hB hbx⟩
          clear hS hB
          have hS := hS2
          clear hS2
          have hB := hS.2.2
          clear hbx
          clear hX3
          have HT := HT9
          clear HT9
          refine ⟨(fun W => W.cell? ⟨w.heap.size, 0, none⟩ = some (.int .i64 m) ∧ W.cell? ⟨w.heap.size, 1, none⟩ = some (.slice A l.length c) ∧ Below W0.heap.size W0 W), hS, (fun W h => h), ?_⟩
          simp only [Act.put, pa, pb, pc]
          repeat (first
            | ((refine seq_skip (by rfl) (by rfl) ?_); simp only [Act.put, pa, pb, pc])
            | ((refine seq_val (v := ?_) (by rfl) (by rfl) (fun w hS => ?_) ?_); rotate_left; (focus ((try dsimp only at hS); go_simp; (try (with_reducible rfl)); done)); simp only [Act.put, pa, pb, pc]))
          have hTn : (Value.slice A3 l.length c3).ownBlock ≠ some X2.heap.size := ty_ne HO.out HT.out.2.2.2 (by decide)
          have hBq := hB
          obtain ⟨X9, hX9⟩ : ∃ X, (X3.setCell ⟨X2.heap.size, 0, none⟩ (.int .i64 m)).setCell ⟨X2.heap.size, 1, none⟩ (.slice A3 l.length c3) = X := ⟨_, rfl⟩
          obtain ⟨y0, y1, ⟨y2, y3⟩, _⟩ := HT.out
          refine seq_store (w' := X9) (by rfl) (by rfl) (by rw [← hX9]; go_simp; (try (with_reducible rfl)); done) ?_
          have hS2 : X9.cell? ⟨w.heap.size, 0, none⟩ = some (.int .i64 m) ∧ X9.cell? ⟨w.heap.size, 1, none⟩ = some (.slice A l.length c) ∧ Below W0.heap.size W0 X9 := ⟨(by rw [← hX9]; exact sc _ (by omega) (sc _ (by omega) (hS.1))), (by rw [← hX9]; exact sc _ (by omega) (sc _ (by omega) (hS.2.1))), (by rw [← hX9]; exact (hB.setCell (p := ⟨X2.heap.size, 0, none⟩) (by show _ ≤ X2.heap.size; omega) _).setCell (p := ⟨X2.heap.size, 1, none⟩) (by show _ ≤ X2.heap.size; omega) _)⟩
          clear hS hB
          have hS := hS2
          clear hS2
          have hB := hS.2.2
          refine ⟨(fun W => W.cell? ⟨w.heap.size, 0, none⟩ = some (.int .i64 m) ∧ W.cell? ⟨w.heap.size, 1, none⟩ = some (.slice A l.length c) ∧ Below W0.heap.size W0 W), hS, (fun W h => h), ?_⟩
          simp only [Act.put, pa, pb, pc]
          repeat (first
            | ((refine seq_skip (by rfl) (by rfl) ?_); simp only [Act.put, pa, pb, pc])
            | ((refine seq_val (v := ?_) (by rfl) (by rfl) (fun w hS => ?_) ?_); rotate_left; (focus ((try dsimp only at hS); go_simp; (try (with_reducible rfl)); done)); simp only [Act.put, pa, pb, pc]))
          refine seq_nil ?_
          go_wp2_with fail
          go_meet
          case rel => exact ⟨X2.heap.size, A3, c3, rfl, by omega, hTn, hide (by rw [← hX9]; exact ownsRow_setCell_other (ownsRow_setCell_other (own_mono HO.out (by omega)) (a := ⟨X2.heap.size, 0, none⟩) hTn _) (a := ⟨X2.heap.size, 1, none⟩) hTn _), (by rw [← hX9]; exact ⟨sc _ (by omega) (sc _ (by omega) (keep_cell hBq (HS0.out.2.2.1))), sc _ (by omega) (sc _ (by omega) (keep_cell hBq (HS0.out.2.2.2.1))), sf _ (sf _ (keep_fre hBq (HS0.out.2.2.2.2.1))), sc_off (by omega) (sc_at y0), sc_at (sc_off (by omega) y1), sf _ (sf _ ⟨y2, y3⟩), ((below_via (HS0.out.2.2.2.2.2) hBq).setCell (p := ⟨X2.heap.size, 0, none⟩) (by show _ ≤ X2.heap.size; omega) _).setCell (p := ⟨X2.heap.size, 1, none⟩) (by show _ ≤ X2.heap.size; omega) _⟩)⟩
    (try clear hS)
    (try clear hB)
    (try clear hzw)
    obtain ⟨T, A3, c3, rfl, hwT, hTn, HROW, hS⟩ := hcut
    go_wp2_with fail
    go_loopw [10, 44] (fun cv iv wr => ∃ (i n : Nat) (M : Int) (L : List Hd) (AL : Option Addr) (cL : Nat), i ≤ ls.length ∧ n ≤ i ∧ iv = .int .i64 i ∧ cv = .int .i64 n ∧ Hid (raN t m l ls i = (M, L, n)) ∧ (Value.slice AL L.length cL).ownBlock ≠ some T ∧ Hid (wr.ownsRow (w.heap.size + 2) 42 10 (.slice AL L.length cL) L.length (hds L)) ∧ (wr.cell? ⟨w.heap.size + 1, 0, none⟩ = some (.int .i64 0) ∧ wr.cell? ⟨w.heap.size + 1, 1, none⟩ = some (.slice none 0 0) ∧ (w.heap.size + 1 < wr.heap.size ∧ ∀ i, wr.frozen? ⟨w.heap.size + 1, i, none⟩ = false) ∧ wr.cell? ⟨T, 0, none⟩ = some (.int .i64 M) ∧ wr.cell? ⟨T, 1, none⟩ = some (.slice AL L.length cL) ∧ (T < wr.heap.size ∧ ∀ i, wr.frozen? ⟨T, i, none⟩ = false) ∧ Below w.heap.size w wr)) (fun _ iv _ => ls.length - (intOf iv).toNat)
    case atStart => exact ⟨0, 0, m, l, A3, c3, by omega, by omega, rfl, rfl, hide rfl, hTn, HROW, hS⟩
    case round =>
      (try clear hS)
      (try clear HROW)
      (try clear hB)
      (try clear hzw)
      (try clear hTn)
      obtain ⟨i, n, M, L, AL, cL, hi, hni, rfl, rfl, HN, hLT, HROW, hS⟩ := hrel
      have hB := hS.2.2.2.2.2.2
      have hzw : w.heap.size ≤ wr.heap.size := hB.size
      have hok := raN_ok (t := t) (ls := ls) HOK.out i
      rw [HN.out] at hok
      have HOM := hide hok.1
      have hL6 : L.length ≤ 6 := (okR_iff hok.1).2.1
      clear hok
      have hTr : T < wr.heap.size := (hS.2.2.2.2.2.1).1
      by_cases hlt : i < ls.length
      rotate_left
      · obtain rfl : i = ls.length := by omega
        have HF := hide (ra_yes HRK.out HN.out)
        go_wp2_with fail
        refine bodyPost_ret (by simp [results, Try.results46, go_sem, cell_set_some, *]; try rfl) rfl ?_
        rw [HF.out.1, HF.out.2.1, HF.out.2.2.1, HF.out.2.2.2]
        refine ⟨AL, cL, rfl, own_mono ?_ (show w.heap.size ≤ w.heap.size + 2 by omega), by go_grown⟩
        repeat (refine own_set ?_ (by first | (simp; done) | (simp; omega)) _)
        exact HROW.out
      obtain ⟨ad, hSA, hb9, hc⟩ := (h2.out.below hB).str hlt
      obtain ⟨y, hz⟩ : ∃ q, sx ls i = q := ⟨_, rfl⟩
      have hys : y.size ≤ 1000000000000 := by rw [← hz]; exact hss.out _ (sx_mem hlt)
      rw [hz] at hc
      have HZ := hide hz
      clear hz
      subst hSA
      go_upto_region 9 with (first | (go_at_call 56; refine (received_c M AL cL L y t _ (hide (own_reads HROW.out)) (by omega) HOM.out hys).mono ?_; rintro e w5 ⟨B, d, rfl, hown, hb⟩; have hT : w5.cell? ⟨w.heap.size + 1, 0, none⟩ = some (.int .i64 0) ∧ w5.cell? ⟨w.heap.size + 1, 1, none⟩ = some (.slice none 0 0) ∧ (w.heap.size + 1 < w5.heap.size ∧ ∀ i, w5.frozen? ⟨w.heap.size + 1, i, none⟩ = false) ∧ w5.cell? ⟨T, 0, none⟩ = some (.int .i64 M) ∧ w5.cell? ⟨T, 1, none⟩ = some (.slice AL L.length cL) ∧ (T < w5.heap.size ∧ ∀ i, w5.frozen? ⟨T, i, none⟩ = false) ∧ Below w.heap.size w w5 := (fun W h hb => ⟨keep_cell (hb) h.1, keep_cell (hb) h.2.1, keep_fre (hb) h.2.2.1, keep_cell (hb) h.2.2.2.1, keep_cell (hb) h.2.2.2.2.1, keep_fre (hb) h.2.2.2.2.2.1, below_via h.2.2.2.2.2.2 (hb)⟩ : ∀ W : World, (W.cell? ⟨w.heap.size + 1, 0, none⟩ = some (.int .i64 0) ∧ W.cell? ⟨w.heap.size + 1, 1, none⟩ = some (.slice none 0 0) ∧ (w.heap.size + 1 < W.heap.size ∧ ∀ i, W.frozen? ⟨w.heap.size + 1, i, none⟩ = false) ∧ W.cell? ⟨T, 0, none⟩ = some (.int .i64 M) ∧ W.cell? ⟨T, 1, none⟩ = some (.slice AL L.length cL) ∧ (T < W.heap.size ∧ ∀ i, W.frozen? ⟨T, i, none⟩ = false) ∧ Below w.heap.size w W) → Below W.heap.size W w5 → (w5.cell? ⟨w.heap.size + 1, 0, none⟩ = some (.int .i64 0) ∧ w5.cell? ⟨w.heap.size + 1, 1, none⟩ = some (.slice none 0 0) ∧ (w.heap.size + 1 < w5.heap.size ∧ ∀ i, w5.frozen? ⟨w.heap.size + 1, i, none⟩ = false) ∧ w5.cell? ⟨T, 0, none⟩ = some (.int .i64 M) ∧ w5.cell? ⟨T, 1, none⟩ = some (.slice AL L.length cL) ∧ (T < w5.heap.size ∧ ∀ i, w5.frozen? ⟨T, i, none⟩ = false) ∧ Below w.heap.size w w5)) _ hS hb; (try clear hS); have hS := hT; clear hT; have hB := hS.2.2.2.2.2.2; have hzw : w.heap.size ≤ w5.heap.size := hB.size; have hz1 : w.heap.size + 1 < w5.heap.size := World.block_lt_of_cell? w5 _ (hS.1); have hz2 : T < w5.heap.size := World.block_lt_of_cell? w5 _ (hS.2.2.2.1); have HR1 := hide (own_below HROW.out hb); clear hb))
      obtain ⟨N, hN9⟩ : ∃ q, w5.heap.size = q := ⟨_, rfl⟩
      obtain ⟨X, hX⟩ : ∃ X, World.alloc w5 (.cells #[.int .i64 (rvM M L y t), .slice B (rvV M L y t).length d] 26) = X := ⟨_, rfl⟩
      rw [hX, hN9]
      have hbx : Below w5.heap.size w5 X := by rw [← hX]; go_grown
      have hTN : T < N := by rw [← hN9]; exact (hS.2.2.2.2.2.1).1
      have hwr2 : w.heap.size + 2 ≤ wr.heap.size := by have h8 := hTr; omega
      have hBT : (Value.slice B (rvV M L y t).length d).ownBlock ≠ some T := fun e => by have h8 := (hown.lt _ e).1; omega
      have HRA := hide (own_below HR1.out hbx)
      have HRB := hide (own_mono (own_below hown hbx) hwr2)
      have hS9 : X.cell? ⟨w.heap.size + 1, 0, none⟩ = some (.int .i64 0) ∧ X.cell? ⟨w.heap.size + 1, 1, none⟩ = some (.slice none 0 0) ∧ (w.heap.size + 1 < X.heap.size ∧ ∀ i, X.frozen? ⟨w.heap.size + 1, i, none⟩ = false) ∧ X.cell? ⟨T, 0, none⟩ = some (.int .i64 M) ∧ X.cell? ⟨T, 1, none⟩ = some (.slice AL L.length cL) ∧ (T < X.heap.size ∧ ∀ i, X.frozen? ⟨T, i, none⟩ = false) ∧ X.cell? ⟨N, 0, none⟩ = some (.int .i64 (rvM M L y t)) ∧ X.cell? ⟨N, 1, none⟩ = some (.slice B (rvV M L y t).length d) ∧ Below w.heap.size w X := ⟨keep_cell hbx (hS.1), keep_cell hbx (hS.2.1), keep_fre hbx (hS.2.2.1), keep_cell hbx (hS.2.2.2.1), keep_cell hbx (hS.2.2.2.2.1), keep_fre hbx (hS.2.2.2.2.2.1), (by rw [← hX, ← hN9]; simp [go_sem]), (by rw [← hX, ← hN9]; simp [go_sem]), below_via (hS.2.2.2.2.2.2) hbx⟩
      clear hS hB hzw hbx hX hN9 hown HR1 HROW hc hwr2 hTr
      (try clear hz1)
      (try clear hz2)
      (try clear hz3)
      have hS := hS9
      clear hS9
      have hB := hS.2.2.2.2.2.2.2.2
      have hzw : w.heap.size ≤ X.heap.size := hB.size
      rcases hk : rvK M L y t with _ | _
      · have HS := hide (raN_no HN.out (show rvK M L (sx ls i) t = false from by rw [HZ.out]; exact hk))
        clear hk
        go_wp2_with fail
        go_roundw
        case rel => exact ⟨i + 1, n, M, L, AL, cL, by omega, by omega, by go_num, rfl, HS, hLT, HRA, hS.1, hS.2.1, hS.2.2.1, hS.2.2.2.1, hS.2.2.2.2.1, hS.2.2.2.2.2.1, hB⟩
        case measure => simp [intOf]; omega
      have HS := hide (raN_yes HN.out (show rvK M L (sx ls i) t = true from by rw [HZ.out]; exact hk))
      rw [HZ.out] at HS
      clear hk
      have fz : ∀ q, X.frozen? ⟨T, q, none⟩ = false := (hS.2.2.2.2.2.1).2
      have hn20 : n ≤ 20 := by omega
      go_wp2_with fail
      go_roundw
      case rel => exact ⟨i + 1, n + 1, rvM M L y t, rvV M L y t, B, d, by omega, by omega, by go_num, by go_num, HS, hBT, hide (ownsRow_setCell_other (ownsRow_setCell_other HRB.out (a := ⟨T, 0, none⟩) hBT _) (a := ⟨T, 1, none⟩) hBT _), sc _ (by omega) (sc _ (by omega) (hS.1)), sc _ (by omega) (sc _ (by omega) (hS.2.1)), sf _ (sf _ (hS.2.2.1)), sc_off (by omega) (sc_at (hS.2.2.2.1)), sc_at (sc_off (by omega) (hS.2.2.2.2.1)), sf _ (sf _ (hS.2.2.2.2.2.1)), (hB.setCell (p := ⟨T, 0, none⟩) (by show _ ≤ T; omega) _).setCell (p := ⟨T, 1, none⟩) (by show _ ≤ T; omega) _⟩
      case measure => simp [intOf]; omega
  all_goals
    go_enter Try.func46, Try.ntmps46
    go_wp2_with (first | (go_at_call 18; refine (validRecv_c _ _ _ l _ (hide (by refine reads_below h1.out ?_; go_grown)) b1).mono ?_; rintro e w1 ⟨rfl, hb⟩; have hT : w1.cell? ⟨w.heap.size, 0, none⟩ = some (.int .i64 m) ∧ w1.cell? ⟨w.heap.size, 1, none⟩ = some (.slice A l.length c) ∧ w1.cell? ⟨w.heap.size + 1, 0, none⟩ = some (.int .i64 0) ∧ w1.cell? ⟨w.heap.size + 1, 1, none⟩ = some (.slice none 0 0) ∧ (w.heap.size + 1 < w1.heap.size ∧ ∀ i, w1.frozen? ⟨w.heap.size + 1, i, none⟩ = false) ∧ Below w.heap.size w w1 := (fun W h hb => ⟨keep_cell (hb) h.1, keep_cell (hb) h.2.1, keep_cell (hb) h.2.2.1, keep_cell (hb) h.2.2.2.1, keep_fre (hb) h.2.2.2.2.1, below_via h.2.2.2.2.2 (hb)⟩ : ∀ W : World, (W.cell? ⟨w.heap.size, 0, none⟩ = some (.int .i64 m) ∧ W.cell? ⟨w.heap.size, 1, none⟩ = some (.slice A l.length c) ∧ W.cell? ⟨w.heap.size + 1, 0, none⟩ = some (.int .i64 0) ∧ W.cell? ⟨w.heap.size + 1, 1, none⟩ = some (.slice none 0 0) ∧ (w.heap.size + 1 < W.heap.size ∧ ∀ i, W.frozen? ⟨w.heap.size + 1, i, none⟩ = false) ∧ Below w.heap.size w W) → Below W.heap.size W w1 → (w1.cell? ⟨w.heap.size, 0, none⟩ = some (.int .i64 m) ∧ w1.cell? ⟨w.heap.size, 1, none⟩ = some (.slice A l.length c) ∧ w1.cell? ⟨w.heap.size + 1, 0, none⟩ = some (.int .i64 0) ∧ w1.cell? ⟨w.heap.size + 1, 1, none⟩ = some (.slice none 0 0) ∧ (w.heap.size + 1 < w1.heap.size ∧ ∀ i, w1.frozen? ⟨w.heap.size + 1, i, none⟩ = false) ∧ Below w.heap.size w w1)) _ (by first | (with_reducible assumption) | (exact hS) | (exact ⟨hS.1, hS.2.1, hS.2.2.1, hS.2.2.2.1, hS.2.2.2.2.1, (by go_grown)⟩) | (exact ⟨(by first | (with_reducible assumption) | (simp [go_sem]; done) | ((simp only [go_sem]); (with_reducible assumption)) | ((refine keep_cell ?_ (by with_reducible assumption)); go_grown; done) | (simp [go_sem, *]; done)), (by first | (with_reducible assumption) | (simp [go_sem]; done) | ((simp only [go_sem]); (with_reducible assumption)) | ((refine keep_cell ?_ (by with_reducible assumption)); go_grown; done) | (simp [go_sem, *]; done)), (by first | (with_reducible assumption) | (simp [go_sem]; done) | ((simp only [go_sem]); (with_reducible assumption)) | ((refine keep_cell ?_ (by with_reducible assumption)); go_grown; done) | (simp [go_sem, *]; done)), (by first | (with_reducible assumption) | (simp [go_sem]; done) | ((simp only [go_sem]); (with_reducible assumption)) | ((refine keep_cell ?_ (by with_reducible assumption)); go_grown; done) | (simp [go_sem, *]; done)), (by first | (with_reducible assumption) | (simp [go_sem]; done) | (refine keep_fre ?_ ⟨by with_reducible assumption, by with_reducible assumption⟩; go_grown; done) | (simp [go_sem, *]; done)), (by go_grown)⟩)) hb; (try clear hS); have hS := hT; clear hT; have hB := hS.2.2.2.2.2; have hzw : w.heap.size ≤ w1.heap.size := hB.size; have hz1 : w.heap.size < w1.heap.size := World.block_lt_of_cell? w1 _ (hS.1); have hz2 : w.heap.size + 1 < w1.heap.size := World.block_lt_of_cell? w1 _ (hS.2.2.1); clear hb) | (go_at_call 61; refine (isMinute_c _ _).mono ?_; rintro e w1 ⟨rfl, rfl⟩))
    refine bodyPost_ret (by simp [results, Try.results46, go_sem, cell_set_some, *]; try rfl) rfl ?_
    rw [HF.out.1, HF.out.2.1, HF.out.2.2.1, HF.out.2.2.2]
    exact ⟨none, 0, rfl, World.ownsRow_nil _ _ _ _, by go_grown⟩
end Go.Proofs.Ytbeojfhakmbacaa
namespace Go.Proofs.Ytbeojfhakmbacaa
open Go.RowKit
theorem sc2 {w : World} {g i b j : Nat} {u : Value} (v : Value) (h : b ≠ g) (q : w.cell? ⟨b, j, none⟩ = some u) : (w.setCell ⟨g, i, none⟩ v).cell? ⟨b, j, none⟩ = some u := by
  rw [World.cell?_setCell_other _ _ _ _ (by intro e; injection e with e1; exact h e1.symm)]; exact q
theorem sf2 {w : World} {p : Addr} {b : Nat} (v : Value) (q : b < w.heap.size ∧ ∀ i, w.frozen? ⟨b, i, none⟩ = false) : b < (w.setCell p v).heap.size ∧ ∀ i, (w.setCell p v).frozen? ⟨b, i, none⟩ = false := ⟨by simpa using q.1, fun i => by simpa using q.2 i⟩
theorem hds_one2 (l : List Hd) : ∀ u ∈ hds l, u.oneCell' = true := by
  intro u hu
  unfold hds at hu
  obtain ⟨h, _, hm⟩ := List.mem_flatMap.1 hu
  simp only [hdc, List.mem_cons, List.not_mem_nil, or_false] at hm
  rcases hm with rfl | rfl | rfl | rfl | rfl | rfl | rfl | rfl | rfl | rfl <;> rfl
theorem reads_nn2 {w : World} {B sz n : Nat} {A : Option Addr} {xs : List Value} (h : Reads w B sz A n xs) (hA : A = none) : n = 0 := Decidable.byContradiction fun hn => by
  obtain ⟨ad, e, _⟩ := h.2 (by omega)
  rw [hA] at e
  cases e
theorem row_cell2 {w : World} {base g n c k : Nat} {L : List Hd} (h : w.ownsRow base 42 10 (.slice (some ⟨g, 0, none⟩) n c) n (hds L)) (hn : n = L.length) (hk : k < L.length) {j : Nat} (hj : j < 10) {v : Value} (hv : (hdc (hx L k))[j]? = some v) : w.cell? ⟨g, k * 10 + j, none⟩ = some v := by
  rw [h.cellAt (k * 10 + j) (by omega), hds_at L k j hk hj]; exact hv
set_option maxHeartbeats 4000000 in
theorem l9Own_c (m : Int) (A : Option Addr) (c : Nat) (l : List Hd) (t : Int) (w : World) (h1 : Hid (Reads w w.heap.size 10 A l.length (hds l))) (b1 : l.length ≤ 4000000)  : Calls Try.prog 87 #[.agg #[.int .i64 m, .slice A l.length c], .int .i64 t] w (GivesS w 42 10 l.length (hds l) (fun v => .agg #[.int .i64 t, v])) := by
  obtain ⟨i0, hi0, iz0, iy0, ix0⟩ := info_parts infoHd
  go_enter Try.func87, Try.ntmps87
  have hO0 := own_empty (e := 42) (size := 10) (base := w.heap.size + 2) (H := w.heap.size + 2) ((w.alloc (.cells #[.int .i64 m, .slice A l.length c] 26)).alloc (.cells #[.int .i64 0, .slice none 0 0] 26)) (by simp) (by omega)
  go_wp2_with (first | (at_builtin; refine wpList_append_any rfl _ _ 24 rfl (w.heap.size + 2) 42 i0 (hdV nHd) 10 80 Try.underlying24 hi0 iz0 iy0 ix0 rfl (by decide) _ 0 [] rfl hO0 w.heap.size _ l.length _ (hds l) rfl (h1.out.below (by go_grown)) (reads_nn2 h1.out) (hds_one2 l) (by unfold maxLen; omega) (by omega) (by first | (simp; done) | (simp; omega)) ?_; intro A3 c3 w3 hown hgrow; have hT : w3.cell? ⟨w.heap.size + 1, 0, none⟩ = some (.int .i64 0) ∧ w3.cell? ⟨w.heap.size + 1, 1, none⟩ = some (.slice none 0 0) ∧ (w.heap.size + 1 < w3.heap.size ∧ ∀ i, w3.frozen? ⟨w.heap.size + 1, i, none⟩ = false) ∧ Below w.heap.size w w3 := ⟨own_cell hO0 hgrow (by first | (simp [go_sem]; done) | (simp [go_sem, *]; done)) (by first | omega | (simp; done) | (simp; omega)), own_cell hO0 hgrow (by first | (simp [go_sem]; done) | (simp [go_sem, *]; done)) (by first | omega | (simp; done) | (simp; omega)), own_fre hO0 hgrow ⟨by simp, by simp [go_sem]⟩ (by omega), own_grown (a := w) (B := w.heap.size) hO0 hgrow (by go_grown) (by first | omega | (simp; omega)) (by omega)⟩; have hS := hT; clear hT; have hB := hS.2.2.2; have hzw : w.heap.size ≤ w3.heap.size := hB.size; rw [Nat.zero_add, List.nil_append] at hown; rw [Nat.zero_add]))
  refine bodyPost_ret (by simp [results, Try.results87, go_sem, cell_set_some, *]; try rfl) rfl ?_
  refine ⟨A3, c3, rfl, own_mono ?_ (show w.heap.size ≤ w.heap.size + 2 by omega), by go_grown⟩
  repeat (refine own_set ?_ (by first | (simp; done) | (simp; omega)) _)
  exact hown
end Go.Proofs.Ytbeojfhakmbacaa
namespace Go.Proofs.Ytbeojfhakmbacaa
open Go
section
variable {P : Program} {ops : Array Oper} {eff : Oper → Bool} {ord : List Nat} {a0 : Act}
theorem cnt_pos {listed : Array Bool} {j : Nat} (h : listed.getD j true = false) : 1 ≤ listed.toList.count false := by
  have hlt : j < listed.size := by
    rcases Nat.lt_or_ge j listed.size with h1 | h1
    · exact h1
    · simp [Array.getD, Nat.not_lt.2 h1] at h
  have hv : listed[j] = false := by simpa [Array.getD, hlt] using h
  have hm : false ∈ listed.toList := by rw [← hv]; exact Array.mem_toList_iff.2 (Array.getElem_mem hlt)
  exact List.count_pos_iff.2 hm
theorem tail_any2 {ops : Array Oper} {Q : Exit → Act → World → Prop} {m : Nat} (hdn : ∀ (j : Nat) (oj : Oper), ops[j]? = some oj → ∀ e ∈ oj.after, Region.binds .any e = true → e.on < max m j)
    (hal : ∀ listed : Array Bool, listed.size = ops.size → Region.ready .any ops listed = [] → ∀ j, listed.getD j true = true) (ht : tailOk ops m = true) :
    ∀ (d fuel k : Nat) (listed : Array Bool) (a : Act) (w : World), k + d = ops.size → d ≤ fuel → m ≤ k → listed.size = ops.size →
      (∀ j, j < ops.size → (listed.getD j true = true ↔ j < k)) → wpList P ops Q (ops.toList.drop k) a w → wpAny P .any ops Q fuel listed a w := by
  have key : ∀ (k i : Nat) (listed : Array Bool), m ≤ k → listed.size = ops.size → (∀ j, j < ops.size → (listed.getD j true = true ↔ j < k)) → i ∈ Region.ready .any ops listed → i = k := by
    intro k i listed hm hs hl hi
    obtain ⟨hu, o, ho, he⟩ := ready_spec hi
    have hlt : i < ops.size := (Array.getElem?_eq_some_iff.1 ho).1
    have hki : ¬ i < k := fun h => by rw [(hl i hlt).2 h] at hu; cases hu
    rcases Nat.lt_or_ge k i with h | h
    · have h1 := below_listed (ops := ops) (listed := listed) (fun j oj hj hlj e hem hb => by
        have hjs : j < ops.size := (Array.getElem?_eq_some_iff.1 hj).1
        have hjk := (hl j hjs).1 hlj
        have h6 := hdn j oj hj e hem hb
        rw [getD_both (by omega)]
        exact (hl e.on (by omega)).2 (by omega)) hs ops.size i (fun oj hoj => by rw [ho] at hoj; cases hoj; exact he) k (tailOk_spec ht hlt (by omega) h)
      rw [getD_both (by omega)] at h1
      have := (hl k (by omega)).1 h1
      omega
    · omega
  have fin : ∀ (k : Nat) (listed : Array Bool) (a : Act) (w : World), k ≤ ops.size → listed.size = ops.size → (∀ j, j < ops.size → (listed.getD j true = true ↔ j < k)) →
      wpList P ops Q (ops.toList.drop k) a w → Region.ready .any ops listed = [] → Q .normal a w := by
    intro k listed a w hk hs hl hw hr
    have hall := hal listed hs hr
    have : k = ops.size := by
      rcases Nat.lt_or_ge k ops.size with h | h
      · have := (hl k h).1 (hall k)
        omega
      · omega
    subst this
    rw [List.drop_of_length_le (by simp)] at hw
    exact hw
  intro d
  induction d with
  | zero =>
    intro fuel k listed a w hk hf hm hs hl hw
    have hr : Region.ready .any ops listed = [] := by
      rcases hr : Region.ready .any ops listed with _ | ⟨i, r⟩
      · rfl
      · have h1 := key k i listed hm hs hl (by rw [hr]; simp)
        obtain ⟨_, o, ho, _⟩ := ready_spec (ops := ops) (listed := listed) (i := i) (by rw [hr]; simp)
        have := (Array.getElem?_eq_some_iff.1 ho).1
        omega
    have hq := fin k listed a w (by omega) hs hl hw hr
    cases fuel with
    | zero => exact ⟨hr, hq⟩
    | succ f => exact ⟨fun _ => hq, fun i hi => by rw [hr] at hi; cases hi⟩
  | succ d ih =>
    intro fuel k listed a w hk hf hm hs hl hw
    cases fuel with
    | zero => omega
    | succ f =>
      refine ⟨fun hr => fin k listed a w (by omega) hs hl hw hr, fun i hi => ?_⟩
      obtain rfl := key k i listed hm hs hl hi
      have hlt : i < ops.size := by omega
      have hlt' : i < ops.toList.length := by simpa using hlt
      rw [List.drop_eq_getElem_cons hlt'] at hw
      have hnext : ∀ (a' : Act) (w' : World), wpList P ops Q (ops.toList.drop (i + 1)) a' w' → wpAny P .any ops Q f (listed.setIfInBounds i true) a' w' := fun a' w' h =>
        ih f (i + 1) _ a' w' (by omega) (by omega) (by omega) (by simpa using hs) (fun j hj => by
          rw [getD_set (by omega)]
          by_cases hji : j = i
          · subst hji; simp
          · rw [if_neg hji, hl j hj]; omega) h
      unfold wpOp
      rw [Array.getElem?_eq_getElem hlt]
      unfold wpList at hw
      rw [Array.getElem_toList] at hw
      simp only []
      split
      · rename_i h1
        rw [if_pos h1] at hw
        exact hw.imp (Oper.wp_mono hnext) id
      · rename_i h1
        rw [if_neg h1] at hw
        exact hnext _ _ hw
theorem seq_any_tail (F : SeqFacts ops eff ord) {Q : Exit → Act → World → Prop} {m : Nat} (hdn : ∀ (j : Nat) (oj : Oper), ops[j]? = some oj → ∀ e ∈ oj.after, Region.binds .any e = true → e.on < max m j) (ht : tailOk ops m = true) (hm : m < ops.size) (hord : ∀ q j : Nat, ord[q]? = some j → (q < m ↔ j < m)) :
    ∀ (fuel : Nat) (ps : List (Oper × Value)) (rest : List Oper) (S : World → Prop) (listed : Array Bool) (a : Act) (w : World), Mid P ops eff ord a0 ps S listed a → ps.length + rest.length = m →
      (∀ q : Nat, ps.length ≤ q → q < m → ((ord[q]?).bind (ops[·]?)) = rest[q - ps.length]?) → S w → wpSeq P ops eff (fun a' w' => wpList P ops Q (ops.toList.drop m) a' w') rest S (stateAt a0 ps ps.length) w → listed.toList.count false + ops.size ≤ fuel →
      wpAny P .any ops Q fuel listed a w := by
  have adv : ∀ (rest : List Oper) (ps : List (Oper × Value)) (S : World → Prop) (listed : Array Bool) (a : Act) (w : World), Mid P ops eff ord a0 ps S listed a → ps.length + rest.length = m →
      (∀ q : Nat, ps.length ≤ q → q < m → ((ord[q]?).bind (ops[·]?)) = rest[q - ps.length]?) → wpSeq P ops eff (fun a' w' => wpList P ops Q (ops.toList.drop m) a' w') rest S (stateAt a0 ps ps.length) w →
      ∃ ps' rest', Mid P ops eff ord a0 ps' S listed a ∧ ps'.length + rest'.length = m ∧ (∀ q : Nat, ps'.length ≤ q → q < m → ((ord[q]?).bind (ops[·]?)) = rest'[q - ps'.length]?) ∧ wpSeq P ops eff (fun a' w' => wpList P ops Q (ops.toList.drop m) a' w') rest' S (stateAt a0 ps' ps'.length) w ∧ (rest' = [] ∨ ∃ o r, rest' = o :: r ∧ eff o = true) := by
    intro rest
    induction rest with
    | nil => intro ps S listed a w M hl hr hw; exact ⟨ps, [], M, hl, hr, hw, .inl rfl⟩
    | cons o rest ih =>
      intro ps S listed a w M hl hr hw
      simp only [List.length_cons] at hl
      cases hef : eff o with
      | true => exact ⟨ps, o :: rest, M, by simpa using hl, hr, hw, .inr ⟨o, rest, rfl, hef⟩⟩
      | false =>
        rcases hw with ⟨_, v, hst, hw⟩ | ⟨h, _⟩
        · have h0 := hr ps.length (Nat.le_refl _) (by omega)
          rw [Nat.sub_self] at h0
          simp only [List.getElem?_cons_zero] at h0
          obtain ⟨j, hj, ho⟩ := Option.bind_eq_some_iff.1 h0
          refine ih (ps ++ [(o, v)]) S listed a w (mid_more F M hj ho hef hst) (by simp only [List.length_append, List.length_singleton]; omega) (fun q hq hqm => ?_) ?_
          · simp only [List.length_append, List.length_singleton] at hq ⊢
            rw [hr q (by omega) hqm, show q - ps.length = (q - (ps.length + 1)) + 1 from by omega, List.getElem?_cons_succ]
          · rw [List.length_append, List.length_singleton, stateAt_last]
            exact hw
        · rw [hef] at h; cases h
  have last : ∀ {ps : List (Oper × Value)} {S : World → Prop} {listed : Array Bool} {a : Act}, Mid P ops eff ord a0 ps S listed a → ps.length ≤ m → listed.getD m true = false := by
    intro ps S listed a M hl
    obtain ⟨q, hq⟩ := List.getElem?_of_mem (F.mem m hm)
    have h1 := hord q m hq
    exact M.ahead q m (by omega) hq
  intro fuel
  induction fuel with
  | zero => intro ps rest S listed a w M hl hr hS hw hc; omega
  | succ fuel ih =>
    intro ps0 rest0 S listed a w M0 hl0 hr0 hS hw0 hc
    obtain ⟨ps, rest, M, hl, hr, hw, hnext⟩ := adv rest0 ps0 S listed a w M0 hl0 hr0 hw0
    have hmu := last M (by omega)
    refine ⟨fun hrd => ?_, fun j hjr => ?_⟩
    · have := seq_listed F M.size hrd m
      rw [hmu] at this; cases this
    obtain ⟨hu, o, ho, he⟩ := ready_spec hjr
    have hjl : j < ops.size := (Array.getElem?_eq_some_iff.1 ho).1
    obtain ⟨q, hq⟩ := List.getElem?_of_mem (F.mem j hjl)
    have hc1 := cnt_pos hu
    have hc' : (listed.setIfInBounds j true).toList.count false + ops.size ≤ fuel := by
      have := count_set (n := fuel - ops.size) hu (by omega)
      omega
    rcases Nat.lt_or_ge q ps.length with hlt | hge
    · unfold wpOp
      simp only [ho]
      have hp : ∃ x, ps[q]? = some x := ⟨_, List.getElem?_eq_getElem hlt⟩
      obtain ⟨⟨o', v⟩, hp⟩ := hp
      obtain ⟨j', hj', ho'⟩ := M.pss q o' v hp
      rw [hq] at hj'; cases hj'
      rw [ho] at ho'; cases ho'
      have hef : eff o = false := by
        cases hef : eff o with
        | false => rfl
        | true =>
          have := M.done q o v j hp hq hef
          rw [hu] at this; cases this
      have M' := mid_put F M hp hq hu he
      have hst := M.quiet q o v hp hef
      obtain ⟨e1, e2⟩ := mid_same F M (Nat.le_of_lt hlt) hq ho hu he
      rcases hst with ⟨h1, h2⟩ | ⟨h1, rfl⟩
      · rw [if_pos (by rw [e2]; exact h1)]
        refine .inl ?_
        unfold Oper.wp
        rw [e1, h2 w hS]
        exact ih ps rest S _ _ w M' hl hr hS hw hc'
      · rw [if_neg (by rw [e2, h1]; simp)]
        exact ih ps rest S _ _ w M' hl hr hS hw hc'
    · rcases Nat.lt_or_ge j m with hjm | hjm
      · have hqm : q < m := (hord q j hq).2 hjm
        unfold wpOp
        simp only [ho]
        have hql : q < ord.length := (List.getElem?_eq_some_iff.1 hq).1
        rcases hnext with rfl | ⟨o', r, rfl, hef⟩
        · have h0 := hr q hge hqm
          rw [hq] at h0
          simp [ho] at h0
        · simp only [List.length_cons] at hl
          have h0 := hr ps.length (Nat.le_refl _) (by omega)
          rw [Nat.sub_self] at h0
          simp only [List.getElem?_cons_zero] at h0
          obtain ⟨i, hi, hoi⟩ := Option.bind_eq_some_iff.1 h0
          have hqe : q = ps.length := by
            rcases Nat.lt_or_ge ps.length q with h | h
            · exfalso
              obtain ⟨j', oj', hj', hoj', _, _, hpair⟩ := F.at_ q hql
              rw [hq] at hj'; cases hj'
              obtain ⟨i', oi', hi', hoi', _, _, hbl⟩ := hpair ps.length h
              rw [hi] at hi'; cases hi'
              rw [hoi] at hoi'; cases hoi'
              have h5 := below_listed M.down M.size ops.size j (fun oj hoj => by rw [ho] at hoj; cases hoj; exact he) i (hbl hef)
              have hil : i < listed.size := by rw [M.size]; exact (Array.getElem?_eq_some_iff.1 hoi).1
              rw [getD_both hil, M.ahead ps.length i (Nat.le_refl _) hi] at h5
              cases h5
            · omega
          subst hqe
          rw [hq] at hi; cases hi
          rw [ho] at hoi; cases hoi
          rcases hw with ⟨h, _⟩ | ⟨_, hwant, hdo⟩
          · rw [hef] at h; cases h
          · obtain ⟨e1, e2⟩ := mid_same F M (Nat.le_refl _) hq ho hu he
            rw [if_pos (by rw [e2]; exact hwant)]
            refine .inl ?_
            rw [← e1] at hdo
            refine hdo.wp fun v w' ⟨S', hS', himp, hw'⟩ => ?_
            refine ih (ps ++ [(o, v)]) r S' _ _ w' (mid_deed F M hq ho hef he himp) (by simp only [List.length_append, List.length_singleton]; omega) (fun k hk hkm => ?_) hS' ?_ hc'
            · simp only [List.length_append, List.length_singleton] at hk ⊢
              rw [hr k (by omega) hkm, show k - ps.length = (k - (ps.length + 1)) + 1 from by omega, List.getElem?_cons_succ]
            · rw [List.length_append, List.length_singleton, stateAt_last]
              exact hw'
      · -- the tail: all ahead of it is listed
        have hall : ∀ i, i < m → listed.getD i true = true := fun i hi => by
          have h5 := below_listed M.down M.size ops.size j (fun oj hoj => by rw [ho] at hoj; cases hoj; exact he) i (tailOk_spec ht hjl hjm (by omega))
          rw [← getD_both (by rw [M.size]; omega)]
          exact h5
        have hpm : ps.length = m := by
          rcases Nat.lt_or_ge ps.length m with h | h
          · exfalso
            have hlo : ps.length < ord.length := by rw [F.len]; omega
            have hk := List.getElem?_eq_getElem hlo
            have h1 := M.ahead ps.length _ (Nat.le_refl _) hk
            rw [hall _ ((hord _ _ hk).1 h)] at h1
            cases h1
          · omega
        have hrest : rest = [] := List.eq_nil_of_length_eq_zero (by omega)
        subst hrest
        have ha : a = stateAt a0 ps ps.length := by
          obtain ⟨ta, da⟩ := a
          have e1 : ta = (stateAt a0 ps ps.length).tmps := Array.ext_getElem? fun t => M.slots t ps.length (Nat.le_refl _) fun p o v j hp hj hd => by
            have hpl := (List.getElem?_eq_some_iff.1 hp).1
            simp only [hall j ((hord p j hj).1 (by omega)), true_iff]
            exact hpl
          have e2 : da = (stateAt a0 ps ps.length).defers := M.defers.trans (stateAt_facts _ _ _).2.symm
          rw [e1, e2]
        have hw2 : wpList P ops Q (ops.toList.drop m) a w := by rw [ha]; exact hw
        have htl := tail_any2 (P := P) (Q := Q) hdn (fun L hs hr => seq_listed F hs hr) ht (ops.size - m) (fuel + 1) m listed a w (by omega) (by omega) (Nat.le_refl _) M.size (fun i hi => ⟨(fun h => by
          rcases Nat.lt_or_ge i m with h1 | h1
          · exact h1
          · exfalso
            obtain ⟨q2, hq2⟩ := List.getElem?_of_mem (F.mem i hi)
            have h2 := hord q2 i hq2
            have h3 := M.ahead q2 i (by omega) hq2
            rw [h] at h3; cases h3), (fun h => hall i h)⟩) hw2
        exact htl.2 j hjr
def tailChk (ops : Array Oper) (eff : Oper → Bool) (ord : List Nat) (m : Nat) : Bool :=
  seqChk ops eff ord && ((List.range ops.size).all fun j => match ops[j]? with | none => true | some oj => oj.after.toList.all fun e => !Region.binds .any e || decide (e.on < max m j)) && tailOk ops m && decide (m < ops.size) && (List.range ord.length).all fun q => match ord[q]? with | none => true | some j => decide (q < m) == decide (j < m)
theorem all_seq_tail {a : Act} {w : World} {Q : Exit → Act → World → Prop} (ord : List Nat) (m : Nat) (S : World → Prop) {ops : Array Oper} (hok : tailChk ops deed ord m = true) (hS : S w)
    (h : wpSeq P ops deed (fun a' w' => wpList P ops Q (ops.toList.drop m) a' w') (byNum ops.toList (ord.take m)) S a w) : RegAll P ops Q a w := fun L hL => by
  unfold tailChk at hok
  simp only [Bool.and_eq_true, decide_eq_true_eq] at hok
  obtain ⟨⟨⟨⟨h1, h2⟩, h3⟩, h4⟩, h5⟩ := hok
  have F := seqChk_spec h1
  have hdn : ∀ (j : Nat) (oj : Oper), ops[j]? = some oj → ∀ e ∈ oj.after, Region.binds .any e = true → e.on < max m j := fun j oj hj e he hb => by
    have hlt : j < ops.size := (Array.getElem?_eq_some_iff.1 hj).1
    have h6 := List.all_eq_true.1 h2 j (by simpa using hlt)
    rw [hj] at h6
    have h7 := List.all_eq_true.1 h6 e (by simpa using he)
    simpa [hb] using h7
  have hord : ∀ q j : Nat, ord[q]? = some j → (q < m ↔ j < m) := fun q j hq => by
    have hql := (List.getElem?_eq_some_iff.1 hq).1
    have h6 := List.all_eq_true.1 h5 q (by simpa using hql)
    rw [hq] at h6
    simpa using h6
  have hmem : ∀ i ∈ ord, i < ops.toList.length := fun i hi => by
    obtain ⟨q, hq⟩ := List.getElem?_of_mem hi
    obtain ⟨j, oj, hj, hoj, _⟩ := F.at_ q (List.getElem?_eq_some_iff.1 hq).1
    rw [hq] at hj; cases hj
    simpa using (Array.getElem?_eq_some_iff.1 hoj).1
  have hbn := byNum_at (l := ops.toList) (ord.take m) (fun i hi => hmem i (List.mem_of_mem_take hi))
  have hlm : (ord.take m).length = m := by rw [List.length_take, F.len]; omega
  have hbl : (byNum ops.toList (ord.take m)).length = m := by
    have key : ∀ l : List Nat, (∀ i ∈ l, i < ops.toList.length) → (byNum ops.toList l).length = l.length := by
      intro l
      induction l with
      | nil => intro _; rfl
      | cons i r ih =>
        intro hh
        have e : ops.toList[i]? = some (ops.toList[i]'(hh i List.mem_cons_self)) := List.getElem?_eq_getElem _
        unfold byNum
        rw [e]
        simp only [List.length_cons]
        rw [ih fun j hj => hh j (List.mem_cons_of_mem _ hj)]
    rw [key _ (fun i hi => hmem i (List.mem_of_mem_take hi)), hlm]
  refine all_of_any (ops.size + ops.size) L _ a w (seq_any_tail (a0 := a) F hdn h3 h4 hord _ [] (byNum ops.toList (ord.take m)) S _ a _ ?_ (by simpa using hbl) (fun q _ hqm => ?_) hS (by simpa [stateAt] using h) ?_) hL
  · refine ⟨by simp, by simp, fun j oj hj hl => ?_, rfl, rfl, fun q j _ hj => ?_, by simp, by simp, by simp, fun t k hk _ => ?_⟩
    · have hlt : j < ops.size := (Array.getElem?_eq_some_iff.1 hj).1
      simp [Array.getD, hlt] at hl
    · have hjl := hmem j (List.mem_of_getElem? hj)
      have hjl2 : j < ops.size := by simpa using hjl
      simp [Array.getD, hjl2]
    · simp [stateAt]
  · have h6 := hbn q
    rw [List.getElem?_take, if_pos hqm] at h6
    simpa using h6
  · have : (Array.replicate ops.size false).toList.count false ≤ ops.size := Nat.le_trans List.count_le_length (by simp)
    omega
theorem all_seq_tail_core {a : Act} {w : World} {Q : Exit → Act → World → Prop} (ord : List Nat) (m : Nat) (S : World → Prop) {l : List Oper} {ops' : Array Oper} (hc : Core l.toArray ops') (hok : tailChk ops' deed ord m = true) (hS : S w)
    (h : wpSeq P l.toArray deed (fun a' w' => wpList P l.toArray Q (l.drop m) a' w') (byNum l (ord.take m)) S a w) : RegAll P ops' Q a w :=
  all_seq_tail ord m S hok hS (by
    have hmap : ops'.toList.map strip = l.map strip := List.ext_getElem? fun k => by
      have := hc k
      simpa using this
    have e := core_wpList (P := P) (Q := Q) hc (l.drop m) (ops'.toList.drop m) (by rw [List.map_drop, List.map_drop, hmap])
    have h1 := core_wpSeq (P := P) hc deed_strip _ _ S a w (by have := byNum_core hc (ord.take m); simpa using this) h
    rw [e]
    exact h1)
end
end Go.Proofs.Ytbeojfhakmbacaa
