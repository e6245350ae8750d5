/- Slices of a slice: what they are. -/
import Derived.Test.YtbeojfhakmbacaaSl
import Derived.Test.YtbeojfhakmbacaaRcMath
import Derived.Test.YtbeojfhakmbacaaSeq
import Derived.Test.YtbeojfhakmbacaaReA
namespace Go.Proofs.Ytbeojfhakmbacaa
open Go Go.RowKit
theorem hdSize (W : World) : (Go.sizeOf 42).run Try.prog W = .ok 10 W := by
  simp [go_sem]
theorem sl_front {A : Option Addr} {n c i : Nat} (hA : A = none ∨ ∃ g, A = some ⟨g, 0, none⟩) (hi : i ≤ n) (hn : n ≤ c) (W : World) : (Instr.sliceAt 24 (.slice A n c) none (some (.int .i64 (i : Int))) none).run Try.prog W = .ok (.slice A i c) W := by
  have h1 : (i : Int) ≤ (c : Int) := by omega
  by_cases hc : c = 0
  · obtain rfl : i = 0 := by omega
    subst hc
    rcases hA with rfl | ⟨g, rfl⟩ <;> simp [go_sem, Addr.add]
  · rcases hA with rfl | ⟨g, rfl⟩ <;> simp [go_sem, *, Addr.add]
theorem sl_back {A : Option Addr} {n c i : Nat} (hi : i ≤ n) (hn : n ≤ c) (W : World) : (Instr.sliceAt 24 (.slice A n c) (some (.int .i64 (i : Int))) none none).run Try.prog W = .ok (.slice (if c = i then A else A.map (·.add (i * 10))) (n - i) (c - i)) W := by
  have h1 : (i : Int) ≤ (n : Int) := by omega
  by_cases hc : c = i <;> simp [go_sem, *]
theorem rd_back {w : World} {B n c i : Nat} {A : Option Addr} {xs : List Value} (h : Reads w B 10 A n xs) (hi : i ≤ n) (hn : n ≤ c) : Reads w B 10 (if c = i then A else A.map (·.add (i * 10))) (n - i) (xs.drop (i * 10)) := by
  by_cases hin : i = n
  · subst hin
    have hl := h.1
    rw [show i - i = 0 from by omega, List.drop_eq_nil_of_le (by omega)]
    exact Reads.none_back _
  · obtain ⟨ad, e, _⟩ := h.2 (by omega)
    subst e
    rw [if_neg (by omega)]
    exact h.back (by omega)
theorem back_nn {n c i : Nat} {A : Option Addr} (hA : A = none → n = 0) : (if c = i then A else A.map (·.add (i * 10))) = none → n - i = 0 := by
  intro e
  split at e
  · have := hA e; omega
  · cases A with
    | none => have := hA rfl; omega
    | some a => simp at e
theorem own_addr {w : World} {base : Nat} {e : TypeId} {size : Nat} {A : Option Addr} {c n : Nat} {xs : List Value} (h : w.ownsRow base e size (.slice A n c) n xs) : A = none ∨ ∃ g, A = some ⟨g, 0, none⟩ := by
  rcases h.2 with ⟨h1, _⟩ | ⟨g, cap, cur, h1, _⟩
  · injection h1 with h1; exact .inl h1
  · injection h1 with h1; exact .inr ⟨g, h1⟩
def rsK (t A K D : Int) (l : List Hd) : Bool := okR t (rcL t A K D l)
def rsM (t A K D : Int) (l : List Hd) : Int := if rsK t A K D l = true then t else 0
def rsV (t A K D : Int) (l : List Hd) : List Hd := if rsK t A K D l = true then rcL t A K D l else []
theorem rs_no {t A K D : Int} {l : List Hd} (h : okR t (rcL t A K D l) = false) : rsK t A K D l = false ∧ rsM t A K D l = 0 ∧ rsV t A K D l = [] := ⟨h, by unfold rsM rsK; rw [h]; rfl, by unfold rsV rsK; rw [h]; rfl⟩
theorem rs_yes {t A K D : Int} {l : List Hd} (h : okR t (rcL t A K D l) = true) : rsK t A K D l = true ∧ rsM t A K D l = t ∧ rsV t A K D l = rcL t A K D l := ⟨h, by unfold rsM rsK; rw [if_pos h], by unfold rsV rsK; rw [if_pos h]⟩
theorem run_sl {ρ : Operand → Value} {o : Oper} {t : TypeId} {x : Operand} {lo hi : Option Operand} (ho : o.op = .slice t x lo hi none) {X : Value} {LO HI : Option Value} (hx : ρ x = X) (hlo : lo.map ρ = LO) (hhi : hi.map ρ = HI) {v : Value} {w : World} (h : (Instr.sliceAt t X LO HI none).run Try.prog w = .ok v w) : (execOp ρ o).run Try.prog w = .ok (.value v) w := by
  unfold execOp
  rw [ho]
  simp [h, hx, hlo, hhi, Sem.run_bind]
theorem reads_alloc (w : World) (xs : List Value) (e : TypeId) : Reads (w.alloc (.cells xs.toArray e)) (w.alloc (.cells xs.toArray e)).heap.size xs.length (some ⟨w.heap.size, 0, none⟩) 1 xs := by
  refine ⟨by simp, fun _ => ⟨_, rfl, by simp, fun k v hk => ?_⟩⟩
  cases k with
  | zero => simp [Addr.add, go_sem, hk]
  | succ k => simp [Addr.add, go_sem, hk]
theorem reads_gb {w w' : World} {sz n : Nat} {A : Option Addr} {xs : List Value} {r : Option Nat} (h : Reads w w.heap.size sz A n xs) (hg : w.grownBy w' r) (hA : ∀ a, A = some a → r ≠ some a.block) : Reads w' w'.heap.size sz A n xs := by
  refine ⟨h.1, fun hn => ?_⟩
  obtain ⟨ad, e, hb, hc⟩ := h.2 hn
  exact ⟨ad, e, Nat.lt_of_lt_of_le hb hg.size, fun k v hk => hg.cell (hc k v hk) (by rw [block_of_add]; exact fun e2 => hA ad e e2.symm)⟩
theorem hds_take : ∀ (l : List Hd) (k : Nat), (hds l).take (k * 10) = hds (l.take k)
  | [], k => by simp [hds]
  | p :: l, 0 => rfl
  | p :: l, k + 1 => by
    rw [hds_cons, List.take_succ_cons, hds_cons, ← hds_take l k, show (k + 1) * 10 = (hdc p).length + k * 10 from by rw [hdc_len]; omega, List.take_length_add_append]
theorem hds_drop : ∀ (l : List Hd) (k : Nat), (hds l).drop (k * 10) = hds (l.drop k)
  | [], k => by simp [hds]
  | p :: l, 0 => rfl
  | p :: l, k + 1 => by
    rw [hds_cons, List.drop_succ_cons, ← hds_drop l k, show (k + 1) * 10 = (hdc p).length + k * 10 from by rw [hdc_len]; omega, List.drop_length_add_append]
theorem bub_flat (l : List Hd) (A : Int) (i : Nat) : (hds l).take (i * 10) ++ hdc (nwH A) ++ (hds l).drop (i * 10) = hds (bubL l A i) := by
  unfold bubL
  rw [hds_take, hds_drop, hds_app, hds_cons, List.append_assoc]
theorem sc_off {w : World} {g i j : Nat} {u v : Value} (h : j ≠ i) (q : w.cell? ⟨g, j, none⟩ = some u) : (w.setCell ⟨g, i, none⟩ v).cell? ⟨g, j, none⟩ = some u := by
  rw [World.cell?_setCell_other _ _ _ _ (by intro e; injection e with _ e1; exact h e1.symm)]; exact q
theorem sc_at {w : World} {p : Addr} {u v : Value} (q : w.cell? p = some u) : (w.setCell p v).cell? p = some v := cell_set_some (by rw [q]; rfl)
end Go.Proofs.Ytbeojfhakmbacaa
