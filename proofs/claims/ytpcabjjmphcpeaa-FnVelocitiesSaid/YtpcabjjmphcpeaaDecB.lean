/- Contracts: decimal texts by the program. -/
import Derived.Test.YtpcabjjmphcpeaaDec
import Derived.Test.YtpcabjjmphcpeaaRegion
import Derived.Test.YtpcabjjmphcpeaaProg
namespace Go.Proofs.Ytpcabjjmphcpeaa
open Go.RowKit

theorem conv_one (v : Int) (c : UInt8) (hv : v = c.toNat) (W : World) (a : Addr) (cap : Nat) (h : W.cell? a = some (.int .u8 v)) :
    (convert 39 9 (.slice (some a) 1 cap)).run Try.prog W = .ok (.string (str [c])) W := by
  have h2 := run_convert_bytes_back (P := Try.prog) W 39 9 5 a cap [c] Try.underlying39 Try.underlying5 Try.underlying9 (by
    intro j hj
    match j, hj with
    | 0, _ => simpa [Addr.add, hv] using h)
  exact h2

theorem text_c (n : Int) (h0 : 0 ≤ n) (h1 : n ≤ 1000000000000) (w : World) : Calls Try.prog 72 #[.int .i64 n] w (Gives w (.string (decS n))) := by
  go_enter Try.func72, Try.ntmps72
  go_wp2
  go_loopw [0, 3] (fun nv sv wr => ∃ (m : Int) (s : ByteArray), nv = .int .i64 m ∧ sv = .string s ∧ 0 ≤ m ∧ m ≤ n ∧ Hid (decS n = decS m ++ s) ∧ Below w.heap.size w wr) (fun nv _ _ => (intOf nv).toNat)
  case atStart => exact ⟨n, ByteArray.empty, rfl, rfl, h0, by omega, hide (by simp), Below.refl _ _⟩
  case round =>
    obtain ⟨m, s, rfl, rfl, m0, m1, H, hB⟩ := hrel
    have hzw : w.heap.size ≤ wr.heap.size := hB.size
    have q1 : m.tdiv 10 = m / 10 := Int.tdiv_eq_ediv_of_nonneg m0
    have q2 : m.tmod 10 = m % 10 := Int.tmod_eq_emod_of_nonneg m0
    have hconv : ∀ (W : World) (a : Addr), W.cell? a = some (.int .u8 (48 + m % 10)) → (convert 39 9 (.slice (some a) 1 1)).run Try.prog W = .ok (.string (str [dig m.toNat])) W :=
      fun W a h => conv_one _ _ (by rw [dig_val]; omega) W a 1 h
    have hadd : ∀ W : World, (Op.stringOp .add (str [dig m.toNat]) s).run Try.prog W = .ok (.string (str [dig m.toNat] ++ s)) W := fun W => run_string_add_sum W _ _ (by
      have h8 := size_of_app H.out
      have h9 := decS_size h0
      rw [str_size]; simp; omega)
    by_cases g : m < 10
    · have HS := hide (show decS n = str [dig m.toNat] ++ s from by rw [H.out, decS_lt g])
      have z : m / 10 = 0 := by omega
      go_wp2
      go_returns
      exact ⟨ret_eq (by rw [HS.out]; simp), by go_grown⟩
    · have HS := hide (decS_step g H.out)
      have z : ¬ m / 10 = 0 := by omega
      go_wp2
      go_roundw
      case rel => exact ⟨m / 10, _, rfl, rfl, by omega, by omega, HS, by go_grown⟩
      case measure => simp [intOf]; omega
end Go.Proofs.Ytpcabjjmphcpeaa
