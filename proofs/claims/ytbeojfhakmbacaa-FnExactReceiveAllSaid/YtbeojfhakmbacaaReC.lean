/- Contracts: receivers in the laws. -/
import Derived.Test.YtbeojfhakmbacaaReC0
namespace Go.Proofs.Ytbeojfhakmbacaa
open Go.RowKit

theorem infoHd : (Try.prog.info? 42).map (fun i => (i.zero, i.size, i.bytes)) = some (some (hdV nHd), 10, 80) := by kernel_rfl

set_option maxHeartbeats 4000000 in
theorem toHeardS_c (A : Option Addr) (c : Nat) (l : List Hd) (w : World) (h1 : Hid (Reads w w.heap.size 10 A l.length (hds l))) (b1 : l.length ≤ 4000000)  : Calls Try.prog 80 #[.slice A l.length c] w (GivesS w 42 10 l.length (hds l) id) := by
  obtain ⟨i0, hi0, iz0, iy0, ix0⟩ := info_parts infoHd
  go_enter Try.func80, Try.ntmps80
  go_wp2_with (first | (at_make; refine wpList_make_full _ rfl _ _ 24 rfl w.heap.size 42 i0 (hdV nHd) 10 Try.underlying24 hi0 iz0 iy0 .i64 .i64 l.length l.length l.length rfl rfl rfl rfl (by rw [ix0]; omega) (by unfold maxLen; omega) (by simp) ?_; intro w1 hown hgrow))
  have hB1 : Below w.heap.size w w1 := (Below.refl _ _).grown hgrow (Nat.le_refl _) (by intro k hk; cases hk)
  rw [made_hd] at hown
  have HO := hide hown
  clear hown hgrow hi0 iz0 iy0 ix0
  go_loopw [4] (fun iv wr => ∃ (i r : Nat), i + r = l.length ∧ iv = .int .i64 i ∧ Hid (wr.ownsRow w.heap.size 42 10 (.slice (some ⟨w.heap.size, 0, none⟩) l.length l.length) l.length (hds (l.take i) ++ hdZ r)) ∧ Below w.heap.size w wr) (fun iv _ => l.length - (intOf iv).toNat)
  case atStart => exact ⟨0, l.length, by omega, rfl, hide HO.out, hB1⟩
  case round =>
    obtain ⟨i, r, hir, rfl, hown, hB⟩ := hrel
    have hzw : w.heap.size ≤ wr.heap.size := hB.size
    by_cases hlt : i < l.length
    · obtain ⟨⟨a, ⟨eo, ea, eb⟩, et, ⟨oo, oa, ob⟩, ot, f⟩, he⟩ : ∃ q, hx l i = q := ⟨_, rfl⟩
      obtain ⟨a1, rfl, ekb, e0, e1, e2, e3, e4, e5, e6, e7, e8, e9⟩ := (h1.out.below hB).hd (k := i) (by omega) he
      have HE := hide he
      clear he
      obtain ⟨r, rfl⟩ : ∃ q, r = q + 1 := ⟨r - 1, by omega⟩
      go_wp2_with fail
      refine (toHeard_c _ _ _ _ _ _ _ _ _ _ _).mono ?_
      rintro e w2 ⟨rfl, hb⟩
      have hT : w2.ownsRow (w.heap.size) 42 10 (.slice (some ⟨w.heap.size, 0, none⟩) l.length l.length) (l.length) (hds (l.take i) ++ hdZ (r + 1)) ∧ Below w.heap.size w w2 := (fun W h hb => ⟨own_below h.1 (hb), below_via h.2 (hb)⟩ : ∀ W : World, (W.ownsRow (w.heap.size) 42 10 (.slice (some ⟨w.heap.size, 0, none⟩) l.length l.length) (l.length) (hds (l.take i) ++ hdZ (r + 1)) ∧ Below w.heap.size w W) → Below W.heap.size W w2 → (w2.ownsRow (w.heap.size) 42 10 (.slice (some ⟨w.heap.size, 0, none⟩) l.length l.length) (l.length) (hds (l.take i) ++ hdZ (r + 1)) ∧ Below w.heap.size w w2)) _ ⟨own_below hown.out (by go_grown), (by go_grown)⟩ hb
      (try clear hS)
      have hS := hT
      clear hT
      have hB := hS.2
      have hzw : w.heap.size ≤ w2.heap.size := hB.size
      clear hb
      have HO2 := hide hS.1
      have hB3 := hS.2
      obtain ⟨u0, hc0⟩ : ∃ u, w2.cell? ⟨w.heap.size, i * 10, none⟩ = some u := ten_at hS.1 hlt 0 (by omega)
      have hf0 := hS.1.frozenAt (i * 10)
      obtain ⟨u1, hc1⟩ : ∃ u, w2.cell? ⟨w.heap.size, i * 10 + 1, none⟩ = some u := ten_at hS.1 hlt 1 (by omega)
      have hf1 := hS.1.frozenAt (i * 10 + 1)
      obtain ⟨u2, hc2⟩ : ∃ u, w2.cell? ⟨w.heap.size, i * 10 + 2, none⟩ = some u := ten_at hS.1 hlt 2 (by omega)
      have hf2 := hS.1.frozenAt (i * 10 + 2)
      obtain ⟨u3, hc3⟩ : ∃ u, w2.cell? ⟨w.heap.size, i * 10 + 3, none⟩ = some u := ten_at hS.1 hlt 3 (by omega)
      have hf3 := hS.1.frozenAt (i * 10 + 3)
      obtain ⟨u4, hc4⟩ : ∃ u, w2.cell? ⟨w.heap.size, i * 10 + 4, none⟩ = some u := ten_at hS.1 hlt 4 (by omega)
      have hf4 := hS.1.frozenAt (i * 10 + 4)
      obtain ⟨u5, hc5⟩ : ∃ u, w2.cell? ⟨w.heap.size, i * 10 + 5, none⟩ = some u := ten_at hS.1 hlt 5 (by omega)
      have hf5 := hS.1.frozenAt (i * 10 + 5)
      obtain ⟨u6, hc6⟩ : ∃ u, w2.cell? ⟨w.heap.size, i * 10 + 6, none⟩ = some u := ten_at hS.1 hlt 6 (by omega)
      have hf6 := hS.1.frozenAt (i * 10 + 6)
      obtain ⟨u7, hc7⟩ : ∃ u, w2.cell? ⟨w.heap.size, i * 10 + 7, none⟩ = some u := ten_at hS.1 hlt 7 (by omega)
      have hf7 := hS.1.frozenAt (i * 10 + 7)
      obtain ⟨u8, hc8⟩ : ∃ u, w2.cell? ⟨w.heap.size, i * 10 + 8, none⟩ = some u := ten_at hS.1 hlt 8 (by omega)
      have hf8 := hS.1.frozenAt (i * 10 + 8)
      obtain ⟨u9, hc9⟩ : ∃ u, w2.cell? ⟨w.heap.size, i * 10 + 9, none⟩ = some u := ten_at hS.1 hlt 9 (by omega)
      have hf9 := hS.1.frozenAt (i * 10 + 9)
      have hst := hide (((((((((((hS.1.stored (i * 10) (.int .i64 a)).1.stored (i * 10 + 1) (.bool eo)).1.stored (i * 10 + 2) (.int .i64 ea)).1.stored (i * 10 + 3) (.int .i64 eb)).1.stored (i * 10 + 4) (.int .i64 et)).1.stored (i * 10 + 5) (.bool oo)).1.stored (i * 10 + 6) (.int .i64 oa)).1.stored (i * 10 + 7) (.int .i64 ob)).1.stored (i * 10 + 8) (.int .i64 ot)).1.stored (i * 10 + 9) (.int .i64 f)).1)
      go_wp2
      go_roundw
      case rel => exact ⟨i + 1, r, by omega, by go_num, hide (by rw [← fill_hd l hir HE.out]; exact hst.out), ((((((((((hB.setCell (p := ⟨w.heap.size, i * 10, none⟩) (Nat.le_refl _) _).setCell (p := ⟨w.heap.size, i * 10 + 1, none⟩) (Nat.le_refl _) _).setCell (p := ⟨w.heap.size, i * 10 + 2, none⟩) (Nat.le_refl _) _).setCell (p := ⟨w.heap.size, i * 10 + 3, none⟩) (Nat.le_refl _) _).setCell (p := ⟨w.heap.size, i * 10 + 4, none⟩) (Nat.le_refl _) _).setCell (p := ⟨w.heap.size, i * 10 + 5, none⟩) (Nat.le_refl _) _).setCell (p := ⟨w.heap.size, i * 10 + 6, none⟩) (Nat.le_refl _) _).setCell (p := ⟨w.heap.size, i * 10 + 7, none⟩) (Nat.le_refl _) _).setCell (p := ⟨w.heap.size, i * 10 + 8, none⟩) (Nat.le_refl _) _).setCell (p := ⟨w.heap.size, i * 10 + 9, none⟩) (Nat.le_refl _) _)⟩
      case measure => simp [intOf]; omega
    obtain rfl : i = l.length := by omega
    obtain rfl : r = 0 := by omega
    go_wp2
    go_returns
    exact ⟨_, _, rfl, by have h9 := hown.out; rw [List.take_length] at h9; simpa [hdZ_zero] using h9, hB⟩
end Go.Proofs.Ytbeojfhakmbacaa
