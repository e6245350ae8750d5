/- Contracts: the parity of a text of bits, by the program. -/
import Derived.Lib.OthersKept
import Derived.Test.YtbeojfhakmbacaaFrC
import Derived.Test.YtbeojfhakmbacaaSplit
namespace Go.Proofs.Ytbeojfhakmbacaa
open Go.RowKit
def deedc (o : Oper) : Bool := deed o || (match o.op with | .convert .. => true | _ => false)
theorem iter_pos {w : World} {k : Nat} {s : ByteArray} {p : Nat} (h : w.heap[k]? = some (.stringIter s p)) : w.iterPos k = p := by simp [World.iterPos, h]
theorem bits0 (W : World) : Calls Try.prog 103 #[.int .i64 0, .int .i64 12] W (Gives W (.string (str z12))) := by
  have h := bitsOf_c 0 12 (by omega) (by omega) (by omega) W
  rw [z12_bits] at h
  exact h
theorem div_head {l : List UInt8} (hb : isB l) {p : Nat} (hp : p < l.length) : ∃ c t, divN p (l ++ z12) = c :: t ∧ (c = 48 ∨ c = 49) ∧ t.length + p = l.length + 11 := by
  have hl := divN_len p (l := l ++ z12) (by simp [z12]; omega)
  have hi := divN_isB p (isB_app hb z12_isB)
  have hz : z12.length = 12 := rfl
  rw [List.length_append, hz] at hl
  cases hd : divN p (l ++ z12) with
  | nil => rw [hd] at hl; simp at hl; omega
  | cons c t =>
    rw [hd] at hl hi
    exact ⟨c, t, rfl, hi c List.mem_cons_self, by simp at hl; omega⟩
theorem isB_asc {l : List UInt8} (hb : isB l) {p : Nat} (hp : p < (str l).size) : ((str l)[p]'hp).toNat < 128 := by
  have h1 : p < l.length := by rw [str_size] at hp; exact hp
  have h2 : (str l)[p]'hp = l[p] := rfl
  rw [h2]
  rcases hb _ (List.getElem_mem h1) with e | e <;> rw [e] <;> decide
set_option maxRecDepth 100000 in
theorem parityOf_c (l : List UInt8) (hb : Hid (isB l)) (hl : l.length ≤ 64) (w : World) : Calls Try.prog 129 #[.string (str l)] w (Gives w (.string (str (parL l)))) := by
  have hadd : ∀ W, (Op.stringOp .add (str l) (str z12)).run Try.prog W = .ok (.string (str (l ++ z12))) W := fun W => by
    rw [run_string_add_sum W _ _ (by rw [str_size, str_size]; have : z12.length = 12 := rfl; omega), str_app]
  have hsz := str_size l
  go_enter Try.func129, Try.ntmps129
  go_wp2_with fail
  refine (bits0 _).mono ?_
  rintro e w1 ⟨rfl, hb1⟩
  obtain ⟨cap, hcv, hbr⟩ := BR.new w1 (str (l ++ z12))
  obtain ⟨W1, hW1⟩ : ∃ W, w1.drew.alloc (.cells (bytesRow (str (l ++ z12)) cap) 5 ((bytesRow (str (l ++ z12)) cap).size, (bytesRow (str (l ++ z12)) cap).size + 1)) = W := ⟨_, rfl⟩
  have hz1 := hb1.size
  have hB1 : Below w.heap.size w W1 := by
    rw [← hW1]
    exact (hb1.trans (Below.drew (Below.refl _ _))).alloc hz1 _
  obtain ⟨N, hN⟩ : ∃ N, (str (l ++ z12)).size = N := ⟨_, rfl⟩
  have hN2 : N = l.length + 12 := by rw [← hN, str_size, List.length_append]; rfl
  rw [hW1] at hcv hbr
  rw [hN] at hcv
  have hGK := hbr.lt
  have HBR := hide hbr
  have hNl : l.length ≤ N := by omega
  have hNi : (l.length : Int) ≤ (N : Int) := by omega
  have HN2 := hide hN2
  clear hbr hW1 hb1 hN hN2
  go_wp2
  obtain ⟨G, hG⟩ : ∃ G, w1.heap.size = G := ⟨_, rfl⟩
  rw [hG] at hz1 hGK HBR hcv ⊢
  rw [str_list] at HBR
  go_loopw [4] (fun _ wr => ∃ (p : Nat) (Z : List UInt8), p ≤ l.length ∧ Z.length = p ∧ wr.heap[W1.heap.size]? = some (.stringIter (str l) p) ∧ Hid (BR wr G (Z ++ divN p (l ++ z12)) cap) ∧ Below w.heap.size w wr) (fun _ wr => l.length - wr.iterPos W1.heap.size)
  case atStart => exact ⟨0, [], by omega, rfl, World.iter_heap W1 _ 0, hide (HBR.out.below ((Below.refl _ _).alloc (Nat.le_refl _) _)), hB1.trans ((Below.refl _ _).alloc hB1.size _)⟩
  case round =>
    obtain ⟨p, Z, hp, hZ, hit, HR, hB⟩ := hrel
    have hpos0 := iter_pos hit
    by_cases hlt : p < l.length
    · have hnx : ∀ ty, (Instr.next (.pointer (some ⟨W1.heap.size, 0, none⟩)) true ty).run Try.prog wr = _ := fun ty => Lib.run_next_ascii_at wr W1.heap.size (str l) p ty hit (by rw [str_size]; exact hlt) (isB_asc hb.out _)
      have hit2 := Lib.iterAt_heap wr W1.heap.size (str l) p (p + 1) hit
      have hB2 := Lib.below_iterAt hB (k := W1.heap.size) hB1.size (str l) (p + 1)
      have HR2 := hide (HR.out.keep (Lib.iterAt_other wr W1.heap.size G (str l) (p + 1) (by omega)))
      obtain ⟨W2, hW2⟩ : ∃ W, wr.iterAt W1.heap.size (str l) (p + 1) = W := ⟨_, rfl⟩
      rw [hW2] at hnx hit2 hB2 HR2
      obtain ⟨c, t, hR, hc, ht⟩ := div_head hb.out hlt
      have hds : divN (p + 1) (l ++ z12) = dstep (c :: t) := by rw [divN_succ, hR]
      rw [hR] at HR2
      have hcell := HR2.out.cell (i := p) (by simp; omega)
      have hga : (Z ++ c :: t)[p]'(by simp; omega) = c := by rw [List.getElem_append_right (by omega)]; simp [hZ]
      rw [hga] at hcell
      have HDS := hide hds
      have hW2z : W1.heap.size < W2.heap.size := (Array.getElem?_eq_some_iff.1 hit2).1
      have hBG : p + 13 ≤ cap := by have := HR2.out.le; simp at this; omega
      clear hW2 hga hR hds HR hit hB
      rcases hc with rfl | rfl
      · replace hcell : W2.cell? ⟨G, p, none⟩ = some (.int .u8 48) := hcell
        have HN := hide (show BR W2 G ((Z ++ [48]) ++ divN (p + 1) (l ++ z12)) cap from by rw [HDS.out, dstep_cons, if_neg (by decide), List.append_assoc]; exact HR2.out)
        go_wp2
        go_roundw
        case rel => exact ⟨p + 1, Z ++ [48], by omega, by simp; omega, hit2, HN, hB2⟩
        case measure => rw [iter_pos hit2, hpos0]; omega
      · replace hcell : W2.cell? ⟨G, p, none⟩ = some (.int .u8 49) := hcell
        go_wp2
        have h9 := HR2.out.le
        have h8 := HN2.out
        have h7 : (Z ++ 49 :: t).length = p + 1 + t.length := by simp [hZ]; omega
        have q1 : p ≤ N := by omega
        have q1i : (p : Int) ≤ (N : Int) := by omega
        have q2 : N ≤ cap := by omega
        have q2i : (N : Int) ≤ (cap : Int) := by omega
        have q3 : (p : Int) + 13 ≤ (cap : Int) := by omega
        have q4 : IntKind.i64.wrap ((p : Int) + 13) = (p : Int) + 13 := IntWalk.i64_in _ (by omega)
        have q5 : (p : Int) ≤ (p : Int) + 13 := by omega
        have q6 : (0 : Int) ≤ (p : Int) + 13 := by omega
        have q7 : ((p : Int) + 13).toNat = p + 13 := by omega
        have q8 : p + 13 - p = 13 := by omega
        have q9 : ¬ cap = p := by omega
        have hcv1 : ∀ W, Below W2.heap.size W2 W → (convert 22 9 (.slice (some ⟨G, p, none⟩) 13 (cap - p))).run Try.prog W = .ok (.string (str (49 :: t.take 12))) W := fun W hW => by
          have h9 := (HR2.out.below hW).part p 13 (cap - p) (by omega)
          rw [List.drop_append_of_le_length (by omega), List.drop_of_length_le (by omega)] at h9
          exact h9
        have hX : xorL (49 :: t.take 12) dvL = 48 :: xorL (t.take 12) (dvL.drop 1) := rfl
        have hXl : (48 :: xorL (t.take 12) (dvL.drop 1)).length = 13 := by rw [List.length_cons, xorL_len]; simp [dvL]; omega
        have hxo : ∀ W, Calls Try.prog 128 #[.string (str (49 :: t.take 12)), .string { data := #[49, 49, 48, 48, 48, 48, 48, 48, 48, 49, 49, 49, 49] }] W (Gives W (.string (str (48 :: xorL (t.take 12) (dvL.drop 1))))) := fun W => by
          have h := xorBits_c (str (49 :: t.take 12)) (str dvL) (by rw [str_size, str_size]; simp [dvL]; omega) (by rw [str_size]; simp; omega) W
          rw [str_list, str_list, hX] at h
          exact h
        have hcp : ∀ W, Below W2.heap.size W2 W → ∃ C, (∀ ty, (Builtin.copy_ #[22, 9] ty #[.slice (some ⟨G, p, none⟩) (N - p) (cap - p), .string (str (48 :: xorL (t.take 12) (dvL.drop 1)))]).run Try.prog W = .ok (goInt 13) (W.setRow G C)) ∧ Hid (BR (W.setRow G C) G ((Z ++ [48]) ++ divN (p + 1) (l ++ z12)) cap) := fun W hW => by
          obtain ⟨C, h1, h2⟩ := (HR2.out.below hW).copy (48 :: xorL (t.take 12) (dvL.drop 1)) p (N - p) (cap - p) (by omega) (by omega)
          rw [hXl] at h1 h2
          refine ⟨C, h1, hide ?_⟩
          have e1 : (Z ++ 49 :: t).take p = Z := by rw [← hZ]; simp
          have e2 : (Z ++ 49 :: t).drop (p + 13) = t.drop 12 := by rw [List.drop_append, List.drop_of_length_le (by omega), List.nil_append, hZ, show p + 13 - p = 12 + 1 from by omega, List.drop_succ_cons]
          rw [e1, e2] at h2
          rw [HDS.out, dstep_cons, if_pos rfl]
          simpa using h2
        obtain ⟨X, hXX⟩ : ∃ X, 48 :: xorL (t.take 12) (dvL.drop 1) = X := ⟨_, rfl⟩
        rw [hXX] at hxo hcp
        clear h9 h8 h7 hX hXl hXX HDS HR2 hcell
        refine wp_region_seq deedc [0, 1, 2, 3, 4, 5, 6, 7, 8, 9, 10] (fun _ => True) (by kernel_rfl) (by kernel_rfl) trivial ?_
        simp only [byNum, List.getElem?_cons_zero, List.getElem?_cons_succ]
        repeat (first
          | ((refine seq_skip (by rfl) (by rfl) ?_); simp only [Act.put, List.setIfInBounds_toArray, List.set_cons_zero, List.set_cons_succ])
          | ((refine seq_val (v := ?_) (by rfl) (by rfl) (fun w hS => ?_) ?_); rotate_left; (focus ((try dsimp only at hS); go_simp; (try (with_reducible rfl)); done)); simp only [Act.put, List.setIfInBounds_toArray, List.set_cons_zero, List.set_cons_succ]))
        have hcv2 := hcv1 W2.drew (by go_grown)
        refine seq_deed (v := ?_) (w' := ?_) (by rfl) (by rfl) ?_ ?_
        rotate_left
        rotate_left
        focus (go_simp; (constructor <;> (with_reducible rfl)); done)
        refine ⟨(fun _ => True), trivial, (fun W h => h), ?_⟩
        simp only [Act.put, List.setIfInBounds_toArray, List.set_cons_zero, List.set_cons_succ]
        repeat (first
          | ((refine seq_skip (by rfl) (by rfl) ?_); simp only [Act.put, List.setIfInBounds_toArray, List.set_cons_zero, List.set_cons_succ])
          | ((refine seq_val (v := ?_) (by rfl) (by rfl) (fun w hS => ?_) ?_); rotate_left; (focus ((try dsimp only at hS); go_simp; (try (with_reducible rfl)); done)); simp only [Act.put, List.setIfInBounds_toArray, List.set_cons_zero, List.set_cons_succ]))
        refine seq_call (f := ?_) (args := ?_) (by rfl) (by rfl) ?_ ?_
        rotate_left
        rotate_left
        focus (go_simp; (constructor <;> (with_reducible rfl)); done)
        refine (hxo _).mono ?_
        rintro e w3 ⟨rfl, hb3⟩
        have hb4 : Below W2.heap.size W2 w3 := below_via (by go_grown) hb3
        obtain ⟨C, hcopy, HBN⟩ := hcp w3 hb4
        refine ⟨_, rfl, (fun _ => True), trivial, (fun W h => h), ?_⟩
        simp only [Act.put, List.setIfInBounds_toArray, List.set_cons_zero, List.set_cons_succ]
        repeat (first
          | ((refine seq_skip (by rfl) (by rfl) ?_); simp only [Act.put, List.setIfInBounds_toArray, List.set_cons_zero, List.set_cons_succ])
          | ((refine seq_val (v := ?_) (by rfl) (by rfl) (fun w hS => ?_) ?_); rotate_left; (focus ((try dsimp only at hS); go_simp; (try (with_reducible rfl)); done)); simp only [Act.put, List.setIfInBounds_toArray, List.set_cons_zero, List.set_cons_succ]))
        refine seq_deed (v := ?_) (w' := ?_) (by rfl) (by rfl) ?_ ?_
        rotate_left
        rotate_left
        focus (go_simp; (constructor <;> (with_reducible rfl)); done)
        refine ⟨(fun _ => True), trivial, (fun W h => h), ?_⟩
        simp only [Act.put, List.setIfInBounds_toArray, List.set_cons_zero, List.set_cons_succ]
        repeat (first
          | ((refine seq_skip (by rfl) (by rfl) ?_); simp only [Act.put, List.setIfInBounds_toArray, List.set_cons_zero, List.set_cons_succ])
          | ((refine seq_val (v := ?_) (by rfl) (by rfl) (fun w hS => ?_) ?_); rotate_left; (focus ((try dsimp only at hS); go_simp; (try (with_reducible rfl)); done)); simp only [Act.put, List.setIfInBounds_toArray, List.set_cons_zero, List.set_cons_succ]))
        refine seq_nil ?_
        have hit3 : (w3.setRow G C).heap[W1.heap.size]? = some (.stringIter (str l) (p + 1)) := by
          rw [setRow_other _ _ _ _ (by omega), hb4.block _ hW2z]; exact hit2
        have hB3 : Below w.heap.size w (w3.setRow G C) := below_setRow (below_via hB2 hb4) hz1 C
        go_wp2
        go_roundw
        case rel => exact ⟨p + 1, Z ++ [48], by omega, by simp; omega, hit3, HBN, hB3⟩
        case measure => rw [iter_pos hit3, hpos0]; omega
    · obtain rfl : p = l.length := by omega
      have hnx : ∀ ty, (Instr.next (.pointer (some ⟨W1.heap.size, 0, none⟩)) true ty).run Try.prog wr = _ := fun ty => Lib.run_next_end_at wr W1.heap.size (str l) l.length ty hit (by rw [str_size]; omega)
      have hpl : (parL l).length = 12 := par_len l
      have hpt := HR.out.part l.length 12 (cap - l.length) (by rw [List.length_append, hZ]; show l.length + 12 ≤ l.length + (parL l).length; omega)
      rw [List.drop_append_of_le_length (by omega), List.drop_of_length_le (by omega), List.nil_append, show (divN l.length (l ++ z12)).take 12 = parL l from List.take_of_length_le (by show (parL l).length ≤ 12; omega)] at hpt
      have h9 := HR.out.le
      have h7 : (Z ++ divN l.length (l ++ z12)).length = l.length + 12 := by rw [List.length_append, hZ]; show l.length + (parL l).length = _; omega
      have h8 := HN2.out
      have q2 : N ≤ cap := by omega
      have q2i : (N : Int) ≤ (cap : Int) := by omega
      have q9 : ¬ cap = l.length := by omega
      have q8 : N - l.length = 12 := by omega
      clear h7 h8 h9 hpl
      go_wp2
      go_returns
      exact ⟨ret_eq rfl, hB⟩
end Go.Proofs.Ytbeojfhakmbacaa
