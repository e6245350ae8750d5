/- Contract: the law on reading a velocity. -/
import Derived.Test.YtpcabjjmphcpeaaPvA
import Derived.Test.YtpcabjjmphcpeaaPvB
namespace Go.Proofs.Ytpcabjjmphcpeaa
open Go.RowKit

theorem fnParseVelocity (s : ByteArray) (w : World) : Calls Try.prog 13 #[.string s] w (Gives w (.bool true)) := by
  by_cases q0 : s.size > 1048576
  · go_enter Try.func13, Try.ntmps13
    go_wp2
    go_returns
    exact ⟨ret_eq rfl, by go_grown⟩
  have hs : s.size ≤ 1048576 := by omega
  go_enter Try.func13, Try.ntmps13
  go_wp2_with fail
  refine (pv_s_c _ hs _).mono ?_
  rintro e w1 ⟨rfl, hb⟩
  have hT : Below w.heap.size w w1 := keep0 (by first | assumption | go_grown) hb
  (try clear hS)
  have hS := hT
  clear hT
  have hB := hS
  have hzw : w.heap.size ≤ w1.heap.size := hB.size
  clear hb
  go_wp2_with fail
  refine (pv_i_c _ hs _).mono ?_
  rintro e w2 ⟨rfl, hb⟩
  have hT : w2.cell? ⟨w1.heap.size, 0, none⟩ = some (.int .i64 (pvV s).1) ∧ w2.cell? ⟨w1.heap.size, 1, none⟩ = some (.int .i64 (pvV s).2) ∧ Below w.heap.size w w2 := keep2 (by first | assumption | (exact hS) | (refine ⟨?_, ?_, ?_⟩ <;> (first | (simp [go_sem]; done) | (simp [go_sem, *]; done) | (go_grown; done)))) hb
  (try clear hS)
  have hS := hT
  clear hT
  have hB := hS.2.2
  have hzw : w.heap.size ≤ w2.heap.size := hB.size
  clear hb
  have hz1 : w1.heap.size < w2.heap.size := World.block_lt_of_cell? w2 _ hS.1
  go_wp2_with fail
  refine (eqVel_c _ _ _).mono ?_
  rintro e w3 ⟨rfl, hb⟩
  have hT : Below w.heap.size w w3 := keep0 (by first | assumption | go_grown) hb
  (try clear hS)
  have hS := hT
  clear hT
  have hB := hS
  have hzw : w.heap.size ≤ w3.heap.size := hB.size
  clear hb
  go_wp2
  go_returns
  exact ⟨ret_eq (by simp), by go_grown⟩
end Go.Proofs.Ytpcabjjmphcpeaa
