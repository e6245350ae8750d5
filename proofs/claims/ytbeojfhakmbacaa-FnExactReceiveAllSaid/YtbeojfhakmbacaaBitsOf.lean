/- Contract: the bits of a number, by the program. -/
import Derived.Test.YtbeojfhakmbacaaStr
import Derived.Test.YtbeojfhakmbacaaOwn
import Derived.Test.YtbeojfhakmbacaaProg
namespace Go.Proofs.Ytbeojfhakmbacaa
open Go.RowKit

theorem infoByte : (Try.prog.info? 5).map (fun i => (i.zero, i.size, i.bytes)) = some (some (.int .u8 0), 1, 1) := by kernel_rfl

theorem conv_row {W : World} {base g cap : Nat} {e : TypeId} {l : List UInt8} (h : W.ownsRow base e 1 (.slice (some ⟨g, 0, none⟩) l.length cap) l.length (l.map byteVal)) :
    (convert 22 9 (.slice (some ⟨g, 0, none⟩) l.length cap)).run Try.prog W = .ok (.string (str l)) W :=
  run_convert_bytes_back (P := Try.prog) W 22 9 5 ⟨g, 0, none⟩ cap l Try.underlying22 Try.underlying5 Try.underlying9 (by
    intro j hj
    have h2 := h.cells (g := g) rfl j (byteVal l[j]) (by rw [List.getElem?_map, List.getElem?_eq_getElem hj]; rfl)
    exact h2)

theorem bitsOf_c (n : Int) (k : Nat) (h0 : 0 ≤ n) (h1 : n ≤ 1000000000000) (h2 : k ≤ 200) (w : World) : Calls Try.prog 103 #[.int .i64 n, .int .i64 k] w (Gives w (.string (str (bitsL n k)))) := by
  obtain ⟨i0, hi, iz0, iz1, iz2⟩ := info_parts infoByte
  go_enter Try.func103, Try.ntmps103
  go_wp2_with (first | (at_make; refine wpList_make_full _ rfl _ _ 22 rfl w.heap.size 5 i0 (.int .u8 0) 1 Try.underlying22 hi iz0 iz1 .i64 .i64 k k k rfl rfl rfl rfl (by rw [iz2]; omega) (by unfold maxLen; omega) (by simp) ?_; intro w1 hown hgrow))
  have hB1 : Below w.heap.size w w1 := (Below.refl _ _).grown hgrow (Nat.le_refl _) (by intro k hk; cases hk)
  have hz : (madeCells (Value.int .u8 0).cells (k * 1)).toList = List.replicate k (.int .u8 0) := by
    rw [Nat.mul_one]; exact toList_madeCells_one _ _
  rw [hz] at hown
  have HO := hide hown
  clear hown hz hgrow hi iz0 iz1 iz2
  go_loopw [0, 6] (fun nv iv wr => ∃ (j p : Nat) (m : Int), j + p = k ∧ nv = .int .i64 m ∧ Hid (m = n / 2 ^ j) ∧ 0 ≤ m ∧ m ≤ n ∧ iv = .int .i64 ((p : Int) - 1) ∧ Hid (wr.ownsRow w.heap.size 5 1 (.slice (some ⟨w.heap.size, 0, none⟩) k k) k (List.replicate p (.int .u8 0) ++ (bitsL n j).map byteVal)) ∧ Below w.heap.size w wr) (fun _ iv _ => (intOf iv + 1).toNat)
  case atStart => exact ⟨0, k, n, by omega, rfl, hide (by simp), h0, by omega, rfl, hide (by simpa [bitsL] using HO.out), hB1⟩
  case round =>
    obtain ⟨j, p, m, hjp, rfl, H, m0, m1, rfl, hown, hB⟩ := hrel
    have hzw : w.heap.size ≤ wr.heap.size := hB.size
    have e1 : m.tmod 2 = m % 2 := Int.tmod_eq_emod_of_nonneg m0
    have e2 : m.tdiv 2 = m / 2 := Int.tdiv_eq_ediv_of_nonneg m0
    by_cases hp : p = 0
    · subst hp
      obtain rfl : j = k := by omega
      have hc := conv_row (l := bitsL n j) (cap := j) (W := wr) (base := w.heap.size) (e := 5) (g := w.heap.size) (by rw [bitsL_len]; simpa using hown.out)
      rw [bitsL_len] at hc
      clear e1 e2
      go_wp2
      go_returns
      exact ⟨ret_eq (by simp), hB⟩
    · obtain ⟨q, rfl⟩ : ∃ q, p = q + 1 := ⟨p - 1, by omega⟩
      have hq : ((q + 1 : Nat) : Int) - 1 = q := by omega
      have hqk : q < k := by omega
      have hcell : wr.cell? ⟨w.heap.size, q, none⟩ = some (.int .u8 0) := by rw [hown.out.cellAt q (by omega)]; exact at_ahead _ _ _
      have hfr := hown.out.frozenAt q
      have hb : ((bit m).toNat : Int) = 48 + m % 2 := by have := bit_val m; omega
      have hst := hide (hown.out.stored q (byteVal (bit m)))
      have hbv : byteVal (bit m) = .int .u8 (48 + m % 2) := by unfold byteVal; rw [hb]
      rw [hbv] at hst
      clear hp hb hbv
      go_wp2
      go_roundw
      case rel =>
        refine ⟨j + 1, q, m / 2, by omega, by first | rfl | go_num, hide ?_, by omega, by omega, by first | rfl | go_num, hide ?_, ?_⟩
        · rw [H.out, div_pow_succ]
        · have h9 := hst.out.1
          rw [set_ahead] at h9
          rw [bitsL, List.map_cons, ← H.out, show byteVal (bit m) = .int .u8 (48 + m % 2) from by unfold byteVal; rw [show ((bit m).toNat : Int) = 48 + m % 2 from by have := bit_val m; omega]]
          exact h9
        · exact hB.setCell (p := ⟨w.heap.size, q, none⟩) (Nat.le_refl _) _
      case measure => simp [intOf]
end Go.Proofs.Ytbeojfhakmbacaa
