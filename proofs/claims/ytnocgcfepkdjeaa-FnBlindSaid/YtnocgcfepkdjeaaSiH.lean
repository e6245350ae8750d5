/- Contracts: spreads. -/
import Derived.Test.YtnocgcfepkdjeaaSiG
namespace Go.Proofs.Ytnocgcfepkdjeaa
open Go.RowKit

theorem l11Spread_c (w : World) (A : Option Addr) (c : Nat) (l : List Pt) (x y : Int) (A2 : Option Addr) (c2 : Nat) (a : List Int) (h1 : Hid (Reads w w.heap.size 2 A l.length (flat l))) (hn : l.length ≤ 1000) (hsm : Hid (small l)) (h2 : Hid (Reads w w.heap.size 1 A2 a.length (ints a))) (HAL : Hid (a.length = l.length)) (hab : Hid (smallN a l.length)) (hl1 : 1 ≤ l.length) (hx0 : -1000000 ≤ x) (hx1 : x ≤ 1000000) (hy0 : -1000000 ≤ y) (hy1 : y ≤ 1000000)  : Calls Try.prog 78 #[.slice A l.length c, .slice A2 a.length c2, .agg #[.int .i64 x, .int .i64 y]] w (Gives w (.int .i64 (spread l a (x, y)))) := by
  go_enter Try.func78, Try.ntmps78
  go_wp2_with (first | (go_at_call 106; refine (l10Sent_c _ A c l x y A2 c2 a (hide (reads_below h1.out (by go_grown))) hn hsm (hide (reads_below h2.out (by go_grown))) HAL hab hx0 hx1 hy0 hy1).mono ?_; rintro e w1 ⟨B, d, rfl, hown, hb⟩; have hT : Below w.heap.size w w1 := (fun W h hb => below_via h (hb) : ∀ W : World, (Below w.heap.size w W) → Below W.heap.size W w1 → (Below w.heap.size w w1)) _ (by first | (with_reducible assumption) | go_grown) hb; (try clear hS); have hS := hT; clear hT; have hB := hS; have hzw : w.heap.size ≤ w1.heap.size := hB.size; clear hb))
  have hown0 := own_mono hown (base' := w.heap.size) (by simp)
  clear hown
  have hown := hown0
  clear hown0
  obtain ⟨g, rfl, hg0, hg1⟩ := own_at hown (by omega)
  have hbd := hide (sentN_bd hsm.out hab.out hx0 hx1 hy0 hy1)
  have HF : Hid (spread l a (x, y) = mxN (sentN l a (x, y) l.length) l.length - mnN (sentN l a (x, y) l.length) l.length) := hide rfl
  obtain ⟨s, hs⟩ : ∃ s, sentN l a (x, y) l.length = s := ⟨_, rfl⟩
  rw [hs] at hown hbd HF
  have hsl := hide (show s.length = l.length from by rw [← hs, sentN_len])
  clear hs
  have hcells := hide (show ∀ (W : World), W.ownsRow w.heap.size 3 1 (.slice (some ⟨g, 0, none⟩) l.length d) l.length (ints s) → ∀ i, i < l.length → W.cell? ⟨g, i, none⟩ = some (.int .i64 (nth s i)) from fun W h i hi => by
    rw [h.cellAt i (by omega)]; exact ints_at s i (by have := hsl.out; omega))
  have hc0 := hcells.out _ hown 0 (by omega)
  have hl0 : 0 < l.length := by omega
  have mbd := hide (fun i => mnN_bd (s := s) (by have := hsl.out; omega) hbd.out i)
  have xbd := hide (fun i => mxN_bd (s := s) (by have := hsl.out; omega) hbd.out i)
  go_wp2
  refine wp_region_det (fun w' => w'.cell? ⟨g, 0, none⟩ = some (.int .i64 (nth s 0)) ∧ w'.ownsRow (w.heap.size) 3 1 (.slice (some ⟨g, 0, none⟩) l.length d) (l.length) (ints s) ∧ Below w.heap.size w w') (by kernel_rfl) (by kernel_rfl) (by first | (with_reducible assumption) | (exact hS) | (exact ⟨hS.1, hS.2.1, (by go_grown)⟩) | (exact ⟨(by first | (with_reducible assumption) | (simp [go_sem]; done) | ((simp only [go_sem]); (with_reducible assumption)) | ((refine keep_cell ?_ (by with_reducible assumption)); go_grown; done) | (simp [go_sem, *]; done)), (by first | (with_reducible assumption) | (exact World.ownsRow.alloc (by with_reducible assumption) _) | ((refine own_below (by with_reducible assumption) ?_); go_grown)), (by go_grown)⟩)) ?_
  repeat (first
    | ((refine wpDet_skip (by rfl) ?_); simp only [Act.put, List.setIfInBounds_toArray, List.set_cons_zero, List.set_cons_succ])
    | ((refine wpDet_val (v := ?_) (by rfl) (fun w hS => ?_) ?_); rotate_left; (focus ((try dsimp only at hS); go_simp; (try (with_reducible rfl)); done)); simp only [Act.put, List.setIfInBounds_toArray, List.set_cons_zero, List.set_cons_succ]))
  refine wpDet_nil ?_
  intro w2 hS
  have hT : w2.cell? ⟨g, 0, none⟩ = some (.int .i64 (nth s 0)) ∧ w2.ownsRow (w.heap.size) 3 1 (.slice (some ⟨g, 0, none⟩) l.length d) (l.length) (ints s) ∧ Below w.heap.size w w2 := hS
  clear hS
  have hS := hT
  obtain ⟨c0, c1, hB⟩ := hT
  have hzw : w.heap.size ≤ w2.heap.size := hB.size
  have hz1 : g < w2.heap.size := World.block_lt_of_cell? w2 _ (hS.1)
  go_wp2
  go_loop [8, 9, 10] (fun lo hi iv => ∃ i : Nat, 1 ≤ i ∧ i ≤ l.length ∧ iv = .int .i64 i ∧ lo = .int .i64 (mnN s i) ∧ hi = .int .i64 (mxN s i)) (fun _ _ iv => l.length - (intOf iv).toNat)
  case atStart => exact ⟨1, by omega, hl1, rfl, int_eq (mnN_one (by have := hsl.out; omega)).symm, int_eq (mxN_one (by have := hsl.out; omega)).symm⟩
  case round =>
    obtain ⟨i, hi1, hi, rfl, rfl, rfl⟩ := hrel
    by_cases hlt : i < l.length
    · have hci := hcells.out _ c1 i hlt
      have H1 := hide (mnN_succ (s := s) (n := i) (by have := hsl.out; omega))
      have H2 := hide (mxN_succ (s := s) (n := i) (by have := hsl.out; omega))
      go_wp2_with (first | (go_at_call 98; refine (least1_c _ _ _).mono ?_; rintro e w1 ⟨rfl, rfl⟩) | (go_at_call 99; refine (most_c _ _ _).mono ?_; rintro e w1 ⟨rfl, rfl⟩))
      go_round
      case rel => exact ⟨i + 1, by omega, by omega, by go_num, int_eq H1.out.symm, int_eq H2.out.symm⟩
      case measure => simp [intOf]; omega
    · obtain rfl : i = l.length := by omega
      obtain ⟨m0, m1⟩ := mbd.out l.length
      obtain ⟨m2, m3⟩ := xbd.out l.length
      have ew : IntKind.i64.wrap (mxN s l.length - mnN s l.length) = mxN s l.length - mnN s l.length := IntWalk.i64_in _ (by omega)
      go_wp2
      go_returns
      exact ⟨ret_eq (by rw [HF.out]; simp), hB⟩

theorem spread_c (w : World) (A : Option Addr) (c : Nat) (l : List Pt) (x y : Int) (A2 : Option Addr) (c2 : Nat) (a : List Int) (h1 : Hid (Reads w w.heap.size 2 A l.length (flat l))) (hn : l.length ≤ 1000) (hsm : Hid (small l)) (h2 : Hid (Reads w w.heap.size 1 A2 a.length (ints a))) (HAL : Hid (a.length = l.length)) (hab : Hid (smallN a l.length)) (hl1 : 1 ≤ l.length) (hx0 : -1000000 ≤ x) (hx1 : x ≤ 1000000) (hy0 : -1000000 ≤ y) (hy1 : y ≤ 1000000)  : Calls Try.prog 80 #[.slice A l.length c, .slice A2 a.length c2, .agg #[.int .i64 x, .int .i64 y]] w (Gives w (.int .i64 (spread l a (x, y)))) := by
  go_enter Try.func80, Try.ntmps80
  go_wp2_with (first | (go_at_call 101; refine (sent_c _ A c l x y A2 c2 a (hide (reads_below h1.out (by go_grown))) hn hsm (hide (reads_below h2.out (by go_grown))) HAL hab hx0 hx1 hy0 hy1).mono ?_; rintro e w1 ⟨B, d, rfl, hown, hb⟩; have hT : Below w.heap.size w w1 := (fun W h hb => below_via h (hb) : ∀ W : World, (Below w.heap.size w W) → Below W.heap.size W w1 → (Below w.heap.size w w1)) _ (by first | (with_reducible assumption) | go_grown) hb; (try clear hS); have hS := hT; clear hT; have hB := hS; have hzw : w.heap.size ≤ w1.heap.size := hB.size; clear hb))
  have hown0 := own_mono hown (base' := w.heap.size) (by simp)
  clear hown
  have hown := hown0
  clear hown0
  obtain ⟨g, rfl, hg0, hg1⟩ := own_at hown (by omega)
  have hbd := hide (sentN_bd hsm.out hab.out hx0 hx1 hy0 hy1)
  have HF : Hid (spread l a (x, y) = mxN (sentN l a (x, y) l.length) l.length - mnN (sentN l a (x, y) l.length) l.length) := hide rfl
  obtain ⟨s, hs⟩ : ∃ s, sentN l a (x, y) l.length = s := ⟨_, rfl⟩
  rw [hs] at hown hbd HF
  have hsl := hide (show s.length = l.length from by rw [← hs, sentN_len])
  clear hs
  have hcells := hide (show ∀ (W : World), W.ownsRow w.heap.size 3 1 (.slice (some ⟨g, 0, none⟩) l.length d) l.length (ints s) → ∀ i, i < l.length → W.cell? ⟨g, i, none⟩ = some (.int .i64 (nth s i)) from fun W h i hi => by
    rw [h.cellAt i (by omega)]; exact ints_at s i (by have := hsl.out; omega))
  have hc0 := hcells.out _ hown 0 (by omega)
  have hl0 : 0 < l.length := by omega
  have mbd := hide (fun i => mnN_bd (s := s) (by have := hsl.out; omega) hbd.out i)
  have xbd := hide (fun i => mxN_bd (s := s) (by have := hsl.out; omega) hbd.out i)
  go_wp2
  refine wp_region_det (fun w' => w'.cell? ⟨g, 0, none⟩ = some (.int .i64 (nth s 0)) ∧ w'.ownsRow (w.heap.size) 3 1 (.slice (some ⟨g, 0, none⟩) l.length d) (l.length) (ints s) ∧ Below w.heap.size w w') (by kernel_rfl) (by kernel_rfl) (by first | (with_reducible assumption) | (exact hS) | (exact ⟨hS.1, hS.2.1, (by go_grown)⟩) | (exact ⟨(by first | (with_reducible assumption) | (simp [go_sem]; done) | ((simp only [go_sem]); (with_reducible assumption)) | ((refine keep_cell ?_ (by with_reducible assumption)); go_grown; done) | (simp [go_sem, *]; done)), (by first | (with_reducible assumption) | (exact World.ownsRow.alloc (by with_reducible assumption) _) | ((refine own_below (by with_reducible assumption) ?_); go_grown)), (by go_grown)⟩)) ?_
  repeat (first
    | ((refine wpDet_skip (by rfl) ?_); simp only [Act.put, List.setIfInBounds_toArray, List.set_cons_zero, List.set_cons_succ])
    | ((refine wpDet_val (v := ?_) (by rfl) (fun w hS => ?_) ?_); rotate_left; (focus ((try dsimp only at hS); go_simp; (try (with_reducible rfl)); done)); simp only [Act.put, List.setIfInBounds_toArray, List.set_cons_zero, List.set_cons_succ]))
  refine wpDet_nil ?_
  intro w2 hS
  have hT : w2.cell? ⟨g, 0, none⟩ = some (.int .i64 (nth s 0)) ∧ w2.ownsRow (w.heap.size) 3 1 (.slice (some ⟨g, 0, none⟩) l.length d) (l.length) (ints s) ∧ Below w.heap.size w w2 := hS
  clear hS
  have hS := hT
  obtain ⟨c0, c1, hB⟩ := hT
  have hzw : w.heap.size ≤ w2.heap.size := hB.size
  have hz1 : g < w2.heap.size := World.block_lt_of_cell? w2 _ (hS.1)
  go_wp2
  go_loop [8, 9, 24] (fun lo hi iv => ∃ i : Nat, i ≤ l.length ∧ iv = .int .i64 i ∧ lo = .int .i64 (mnN s i) ∧ hi = .int .i64 (mxN s i)) (fun _ _ iv => l.length - (intOf iv).toNat)
  case atStart => exact ⟨0, by omega, rfl, rfl, rfl⟩
  case round =>
    obtain ⟨i, hi, rfl, rfl, rfl⟩ := hrel
    by_cases hlt : i < l.length
    · have hci := hcells.out _ c1 i hlt
      have H1 := hide (mnN_succ (s := s) (n := i) (by have := hsl.out; omega))
      have H2 := hide (mxN_succ (s := s) (n := i) (by have := hsl.out; omega))
      go_wp2
      go_round
      case rel => exact ⟨i + 1, by omega, by go_num, int_eq (by rw [H1.out, min_rule]), int_eq (by rw [H2.out, max_rule])⟩
      case measure => simp [intOf]; omega
    · obtain rfl : i = l.length := by omega
      obtain ⟨m0, m1⟩ := mbd.out l.length
      obtain ⟨m2, m3⟩ := xbd.out l.length
      have ew : IntKind.i64.wrap (mxN s l.length - mnN s l.length) = mxN s l.length - mnN s l.length := IntWalk.i64_in _ (by omega)
      go_wp2
      go_returns
      exact ⟨ret_eq (by rw [HF.out]; simp), hB⟩
end Go.Proofs.Ytnocgcfepkdjeaa
