/- Contracts: decimal texts by the reference. -/
import Derived.Test.YtpcabjjmphcpeaaDec
import Derived.Test.YtpcabjjmphcpeaaRegion
import Derived.Test.YtpcabjjmphcpeaaProg
namespace Go.Proofs.Ytpcabjjmphcpeaa
open Go.RowKit

theorem numText_all : ∀ (m : Nat) (n : Int), n.toNat = m → 0 ≤ n → n ≤ 1000000000000 → ∀ w : World, Calls Try.prog 75 #[.int .i64 n] w (Gives w (.string (decS n))) := by
  intro m
  induction m using Nat.strongRecOn with
  | ind m ih =>
    intro n hm h0 h1 w
    subst hm
    have IH := hide ih
    clear ih
    by_cases g : n < 10
    · have HS := hide (decS_lt g)
      have HD := hide (digits_int h0 g)
      go_enter Try.func75, Try.ntmps75
      go_wp2
      go_returns
      exact ⟨ret_eq (by rw [HS.out, ← HD.out]; simp), by go_grown⟩
    · have HS := hide (decS_ge g)
      have q1 : n.tdiv 10 = n / 10 := Int.tdiv_eq_ediv_of_nonneg h0
      have q2 : n.tmod 10 = n % 10 := Int.tmod_eq_emod_of_nonneg h0
      obtain ⟨d, hd⟩ : ∃ d, n % 10 = d := ⟨_, rfl⟩
      have d0 : 0 ≤ d := by omega
      have d1 : d < 10 := by omega
      have HD := hide (digits_int d0 d1)
      have ew1 : IntKind.i64.wrap (n / 10) = n / 10 := IntWalk.i64_in _ (by omega)
      have ew2 : IntKind.i64.wrap d = d := IntWalk.i64_in _ (by omega)
      have ew3 : IntKind.i64.wrap (d + 1) = d + 1 := IntWalk.i64_in _ (by omega)
      have c1 : 0 ≤ d + 1 := by omega
      have c2 : d + 1 ≤ 10 := by omega
      have c3 : d ≤ d + 1 := by omega
      have hsz := decS_size (n := n / 10) (by omega)
      have hsz2 : (decS (n / 10)).size ≤ 1000000000000 := by omega
      rw [hd] at HS
      have hadd : ∀ w : World, (Op.stringOp .add (decS (n / 10)) (str [dig d.toNat])).run Try.prog w = .ok (.string (decS n)) w := fun w => by rw [run_string_add_sum w _ _ (by rw [str_size]; simp; omega), HS.out]
      have HD := HD.out
      go_enter Try.func75, Try.ntmps75
      go_wp2
      refine wp_region_det (fun w' => Below w.heap.size w w') (by kernel_rfl) (by kernel_rfl) (by first | assumption | go_grown) ?_
      repeat (first
        | ((refine wpDet_skip (by rfl) ?_); simp only [Act.put, List.setIfInBounds_toArray, List.set_cons_zero, List.set_cons_succ])
        | ((refine wpDet_val (v := ?_) (by rfl) (fun w hS => ?_) ?_); rotate_left; (focus ((try dsimp only at hS); go_simp; (try (with_reducible rfl)); done)); simp only [Act.put, List.setIfInBounds_toArray, List.set_cons_zero, List.set_cons_succ])
        | ((refine wpDet_call (v := ?_) (f := ?_) (args := ?_) (by rfl) (fun w => ?_) (fun w hS => ?_) ?_); rotate_left; rotate_left; rotate_left; (focus (go_simp; (constructor <;> (with_reducible rfl)); done)); (focus (first | (go_at_call 75; refine (IH.out _ (by omega) _ rfl (by omega) (by omega) _).mono ?_; intro e w' h; refine ⟨h.1.trans ?_, keep0 hS h.2⟩; with_reducible rfl))); simp only [Act.put, List.setIfInBounds_toArray, List.set_cons_zero, List.set_cons_succ]))
      refine wpDet_nil ?_
      intro w1 hS
      have hT : Below w.heap.size w w1 := hS
      clear hS
      have hS := hT
      obtain ⟨hB⟩ := hT
      go_wp2
      go_returns
      exact ⟨ret_eq rfl, hS⟩
theorem l1Num_c (n : Int) (h0 : 0 ≤ n) (h1 : n ≤ 1000000000000) (w : World) : Calls Try.prog 75 #[.int .i64 n] w (Gives w (.string (decS n))) := numText_all _ n rfl h0 h1 w
end Go.Proofs.Ytpcabjjmphcpeaa
