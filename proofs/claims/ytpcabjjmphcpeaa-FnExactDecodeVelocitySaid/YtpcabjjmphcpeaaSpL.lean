/- Contract: receiving. -/
import Derived.Test.YtpcabjjmphcpeaaSpJ
import Derived.Test.YtpcabjjmphcpeaaSpK
namespace Go.Proofs.Ytpcabjjmphcpeaa
open Go.RowKit

theorem fnDecodeVelocity (n : Int) (w : World) : Calls Try.prog 10 #[.int .i64 n] w (Gives w (.bool true)) := by
  go_enter Try.func10, Try.ntmps10
  go_wp2_with fail
  refine (sDec_c _ _).mono ?_
  rintro e w1 ⟨rfl, hb⟩
  have hT : Below w.heap.size w w1 := keep0 (by first | assumption | go_grown) hb
  (try clear hS)
  have hS := hT
  clear hT
  have hB := hS
  have hzw : w.heap.size ≤ w1.heap.size := hB.size
  clear hb
  go_wp2_with fail
  refine (dec_c _ _).mono ?_
  rintro e w2 ⟨rfl, hb⟩
  have hT : w2.cell? ⟨w1.heap.size, 0, none⟩ = some (.int .i64 (decX n)) ∧ w2.cell? ⟨w1.heap.size, 1, none⟩ = some (.int .i64 (decY n)) ∧ Below w.heap.size w w2 := keep2 (by first | assumption | (exact hS) | (refine ⟨?_, ?_, ?_⟩ <;> (first | (simp [go_sem]; done) | (simp [go_sem, *]; done) | (go_grown; done)))) hb
  (try clear hS)
  have hS := hT
  clear hT
  have hB := hS.2.2
  have hzw : w.heap.size ≤ w2.heap.size := hB.size
  have hz1 : w1.heap.size < w2.heap.size := World.block_lt_of_cell? w2 _ (hS.1)
  clear hb
  go_wp2_with fail
  refine (eqVel_c _ _ _).mono ?_
  rintro e w3 ⟨rfl, hb⟩
  have hT : Below w.heap.size w w3 := keep0 (by first | assumption | go_grown) hb
  (try clear hS)
  have hS := hT
  clear hT
  have hB := hS
  have hzw : w.heap.size ≤ w3.heap.size := hB.size
  clear hb
  go_wp2
  go_returns
  exact ⟨ret_eq rfl, by go_grown⟩
end Go.Proofs.Ytpcabjjmphcpeaa
