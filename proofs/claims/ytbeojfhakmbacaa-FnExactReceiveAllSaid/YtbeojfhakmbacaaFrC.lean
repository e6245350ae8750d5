/- Contracts: texts of bits that are compared or have another bit. -/
import Derived.Test.YtbeojfhakmbacaaFrB
import Derived.Test.YtbeojfhakmbacaaSl
namespace Go.Proofs.Ytbeojfhakmbacaa
open Go.RowKit
theorem ext_str (l : List UInt8) (a b : Nat) : (str l).extract a b = str ((l.take b).drop a) := by
  have h := ByteArray.extract_mk l a b
  rw [List.drop_take]
  exact h
theorem xor_step {a b : ByteArray} {i : Nat} (ha : i < a.size) (hb : i < b.size) : xorL (a.data.toList.take (i + 1)) (b.data.toList.take (i + 1)) = xorL (a.data.toList.take i) (b.data.toList.take i) ++ [if a[i] = b[i] then 48 else 49] := by
  rw [take_snoc a i ha, take_snoc b i hb, xorL_snoc _ _ _ _ (by simp; omega)]
theorem xor_full {a b : ByteArray} (h : a.size ≤ b.size) : xorL (a.data.toList.take a.size) (b.data.toList.take a.size) = xorL a.data.toList b.data.toList := by
  rw [xorL_take, List.take_of_length_le (by rw [xorL_len]; simp; omega)]
theorem rep_succ (q : Nat) (z : Value) : List.replicate (q + 1) z = z :: List.replicate q z := rfl
theorem xorBits_c (a b : ByteArray) (hab : a.size ≤ b.size) (ha : a.size ≤ 1000) (w : World) : Calls Try.prog 128 #[.string a, .string b] w (Gives w (.string (str (xorL a.data.toList b.data.toList)))) := by
  obtain ⟨i0, hi, iz0, iz1, iz2⟩ := info_parts infoByte
  go_enter Try.func128, Try.ntmps128
  go_wp2_with (first | (at_make; refine wpList_make_full _ rfl _ _ 22 rfl w.heap.size 5 i0 (.int .u8 0) 1 Try.underlying22 hi iz0 iz1 .i64 .i64 a.size a.size a.size rfl rfl rfl rfl (by rw [iz2]; omega) (by unfold maxLen; omega) (by simp) ?_; intro w1 hown hgrow))
  have hB1 : Below w.heap.size w w1 := (Below.refl _ _).grown hgrow (Nat.le_refl _) (by intro k hk; cases hk)
  have hz : (madeCells (Value.int .u8 0).cells (a.size * 1)).toList = List.replicate a.size (.int .u8 0) := by
    rw [Nat.mul_one]; exact toList_madeCells_one _ _
  rw [hz] at hown
  have HO := hide hown
  clear hown hz hgrow hi iz0 iz1 iz2
  go_loopw [12] (fun iv wr => ∃ (i p : Nat), i + p = a.size ∧ iv = .int .i64 i ∧ Hid (wr.ownsRow w.heap.size 5 1 (.slice (some ⟨w.heap.size, 0, none⟩) a.size a.size) a.size ((xorL (a.data.toList.take i) (b.data.toList.take i)).map byteVal ++ List.replicate p (Value.int .u8 0))) ∧ Below w.heap.size w wr) (fun iv _ => a.size - (intOf iv).toNat)
  case atStart => exact ⟨0, a.size, by omega, rfl, hide (by simpa [xorL] using HO.out), hB1⟩
  case round =>
    obtain ⟨i, p, hip, rfl, hown, hB⟩ := hrel
    have hzw : w.heap.size ≤ wr.heap.size := hB.size
    by_cases hp : p = 0
    · subst hp
      obtain rfl : i = a.size := by omega
      have hl : (xorL a.data.toList b.data.toList).length = a.size := by rw [xorL_len]; simp; omega
      have h9 := hown.out
      rw [xor_full hab] at h9
      have hc := conv_row (l := xorL a.data.toList b.data.toList) (cap := a.size) (W := wr) (base := w.heap.size) (e := 5) (g := w.heap.size) (by rw [hl]; simpa using h9)
      rw [hl] at hc
      clear h9 hl
      go_wp2
      go_returns
      exact ⟨ret_eq rfl, hB⟩
    · obtain ⟨q, rfl⟩ : ∃ q, p = q + 1 := ⟨p - 1, by omega⟩
      have hia : i < a.size := by omega
      have hib : i < b.size := by omega
      have hxl : i = ((xorL (a.data.toList.take i) (b.data.toList.take i)).map byteVal).length := by rw [List.length_map, xorL_len]; simp; omega
      have hcell : wr.cell? ⟨w.heap.size, i, none⟩ = some (.int .u8 0) := by
        rw [hown.out.cellAt i (by omega), rep_succ, List.getElem?_append_right (by omega), ← hxl, Nat.sub_self]; rfl
      have hfr := hown.out.frozenAt i
      have hst := hown.out.stored i (byteVal 48)
      have hset : ((xorL (a.data.toList.take i) (b.data.toList.take i)).map byteVal ++ List.replicate (q + 1) (Value.int .u8 0)).set i (byteVal 48) = (xorL (a.data.toList.take i) (b.data.toList.take i)).map byteVal ++ byteVal 48 :: List.replicate q (Value.int .u8 0) := by
        rw [rep_succ, set_mid _ _ _ _ hxl]
      rw [hset] at hst
      have HST := hide hst.1
      have hbv : byteVal 48 = .int .u8 48 := rfl
      rw [hbv] at HST
      have HB2 := hide (hB.setCell (p := ⟨w.heap.size, i, none⟩) (Nat.le_refl _) (.int .u8 48))
      have HXS := hide (xor_step hia hib)
      have HXL := hide hxl
      clear hxl hst hset hbv hp
      by_cases he : a[i] = b[i]
      · have hbyte : (a[i].toNat : Int) = (b[i].toNat : Int) := by rw [he]
        have HR := hide (show (xorL (a.data.toList.take (i + 1)) (b.data.toList.take (i + 1))).map byteVal ++ List.replicate q (Value.int .u8 0) = (xorL (a.data.toList.take i) (b.data.toList.take i)).map byteVal ++ Value.int .u8 48 :: List.replicate q (Value.int .u8 0) from by
          rw [HXS.out, if_pos he, List.map_append, List.append_assoc]; rfl)
        clear he
        go_wp2
        refine wp_region_det (fun w' => w'.ownsRow (w.heap.size) 5 1 (.slice (some ⟨w.heap.size, 0, none⟩) a.size a.size) (a.size) ((xorL (a.data.toList.take i) (b.data.toList.take i)).map byteVal ++ Value.int .u8 48 :: List.replicate q (.int .u8 0)) ∧ Below w.heap.size w w') (by kernel_rfl) (by kernel_rfl) ⟨own_below HST.out (by go_grown), below_via HB2.out (by go_grown)⟩ ?_
        repeat (first
          | ((refine wpDet_skip (by rfl) ?_); simp only [Act.put, List.setIfInBounds_toArray, List.set_cons_zero, List.set_cons_succ])
          | ((refine wpDet_val (v := ?_) (by rfl) (fun w hS => ?_) ?_); rotate_left; (focus ((try dsimp only at hS); go_simp; (try (with_reducible rfl)); done)); simp only [Act.put, List.setIfInBounds_toArray, List.set_cons_zero, List.set_cons_succ]))
        refine wpDet_nil ?_
        intro wd hS
        have hT : wd.ownsRow (w.heap.size) 5 1 (.slice (some ⟨w.heap.size, 0, none⟩) a.size a.size) (a.size) ((xorL (a.data.toList.take i) (b.data.toList.take i)).map byteVal ++ Value.int .u8 48 :: List.replicate q (.int .u8 0)) ∧ Below w.heap.size w wd := hS
        clear hS
        have hS := hT
        obtain ⟨c0, hB⟩ := hT
        have hzw : w.heap.size ≤ wd.heap.size := hB.size
        go_wp2
        go_roundw
        case rel => exact ⟨i + 1, q, by omega, by go_num, hide (by rw [HR.out]; exact hS.1), hB⟩
        case measure => simp [intOf]; omega
      · have hbyte : ¬ (a[i].toNat : Int) = (b[i].toNat : Int) := fun e => he (UInt8.toNat_inj.1 (by omega))
        have HR := hide (show (xorL (a.data.toList.take (i + 1)) (b.data.toList.take (i + 1))).map byteVal ++ List.replicate q (Value.int .u8 0) = (xorL (a.data.toList.take i) (b.data.toList.take i)).map byteVal ++ Value.int .u8 49 :: List.replicate q (Value.int .u8 0) from by
          rw [HXS.out, if_neg he, List.map_append, List.append_assoc]; rfl)
        clear he
        go_wp2
        refine wp_region_det (fun w' => w'.ownsRow (w.heap.size) 5 1 (.slice (some ⟨w.heap.size, 0, none⟩) a.size a.size) (a.size) ((xorL (a.data.toList.take i) (b.data.toList.take i)).map byteVal ++ Value.int .u8 48 :: List.replicate q (.int .u8 0)) ∧ Below w.heap.size w w') (by kernel_rfl) (by kernel_rfl) ⟨own_below HST.out (by go_grown), below_via HB2.out (by go_grown)⟩ ?_
        repeat (first
          | ((refine wpDet_skip (by rfl) ?_); simp only [Act.put, List.setIfInBounds_toArray, List.set_cons_zero, List.set_cons_succ])
          | ((refine wpDet_val (v := ?_) (by rfl) (fun w hS => ?_) ?_); rotate_left; (focus ((try dsimp only at hS); go_simp; (try (with_reducible rfl)); done)); simp only [Act.put, List.setIfInBounds_toArray, List.set_cons_zero, List.set_cons_succ]))
        refine wpDet_nil ?_
        intro wd hS
        have hT : wd.ownsRow (w.heap.size) 5 1 (.slice (some ⟨w.heap.size, 0, none⟩) a.size a.size) (a.size) ((xorL (a.data.toList.take i) (b.data.toList.take i)).map byteVal ++ Value.int .u8 48 :: List.replicate q (.int .u8 0)) ∧ Below w.heap.size w wd := hS
        clear hS
        have hS := hT
        obtain ⟨c0, hB⟩ := hT
        have hzw : w.heap.size ≤ wd.heap.size := hB.size
        have hcell2 : wd.cell? ⟨w.heap.size, i, none⟩ = some (.int .u8 48) := by
          rw [hS.1.cellAt i (by omega), List.getElem?_append_right (by have := HXL.out; omega), ← HXL.out, Nat.sub_self]; rfl
        have hfr2 := hS.1.frozenAt i
        have hst2 := hS.1.stored i (.int .u8 49)
        rw [set_mid _ _ _ _ HXL.out] at hst2
        have HST2 := hide hst2.1
        clear hst2
        go_wp2
        go_roundw
        case rel => exact ⟨i + 1, q, by omega, by go_num, hide (by rw [HR.out]; exact HST2.out), hB.setCell (p := ⟨w.heap.size, i, none⟩) (Nat.le_refl _) _⟩
        case measure => simp [intOf]; omega
theorem flip_set (l : List UInt8) (i : Nat) (h : i < l.length) : l.set i (fbit l[i]) = flipL l i := by
  unfold flipL
  rw [List.set_eq_take_append_cons_drop, if_pos h, List.getD_eq_getElem?_getD, List.getElem?_eq_getElem h]; rfl
theorem flip_c (s : ByteArray) (i : Nat) (hi : i < s.size) (hb : Hid (isB s.data.toList)) (hs : s.size ≤ 1000000) (w : World) : Calls Try.prog 106 #[.string s, .int .i64 i] w (Gives w (.string (str (flipL s.data.toList i)))) := by
  obtain ⟨cap, hcv, hbr⟩ := BR.new w s
  obtain ⟨W1, hW1⟩ : ∃ W, w.drew.alloc (.cells (bytesRow s cap) 5 ((bytesRow s cap).size, (bytesRow s cap).size + 1)) = W := ⟨_, rfl⟩
  have hB1 : Below w.heap.size w W1 := by rw [← hW1]; go_grown
  rw [hW1] at hcv hbr
  clear hW1
  have hlen : s.data.toList.length = s.size := by simp
  have hget : s.data.toList[i]'(by omega) = s[i] := rfl
  have hcell := hbr.cell (i := i) (by omega)
  have hfr := hbr.frozen (i := i) (by omega)
  have HBR := hide hbr
  rw [hget] at hcell
  have hby := isB_byte hb.out hi
  have key : ∀ c : UInt8, fbit s[i] = c → Hid (BR (W1.setCell ⟨w.heap.size, i, none⟩ (byteVal c)) w.heap.size (flipL s.data.toList i) cap) := fun c hc => hide (by
    have := HBR.out.set (i := i) c
    rw [← hc, ← hget, flip_set _ _ (by omega), hget, hc] at this
    exact this)
  have hfl : (flipL s.data.toList i).length = s.size := by rw [flip_len (by omega)]; exact hlen
  rcases hby with h8 | h8
  · have K := key 49 (by rw [h8]; rfl)
    have hp := K.out.part 0 s.size cap (by omega)
    rw [List.drop_zero, List.take_of_length_le (by omega)] at hp
    rw [h8] at hcell
    have e1 : byteVal 48 = .int .u8 48 := rfl
    have e2 : byteVal 49 = .int .u8 49 := rfl
    rw [e1] at hcell
    rw [e2] at hp
    clear hbr key K hfl hlen hget e1 e2 h8 HBR
    go_enter Try.func106, Try.ntmps106
    go_wp2
    go_returns
    exact ⟨ret_eq rfl, by go_grown⟩
  · have K := key 48 (by rw [h8]; rfl)
    have hp := K.out.part 0 s.size cap (by omega)
    rw [List.drop_zero, List.take_of_length_le (by omega)] at hp
    rw [h8] at hcell
    have e1 : byteVal 48 = .int .u8 48 := rfl
    have e2 : byteVal 49 = .int .u8 49 := rfl
    rw [e2] at hcell
    rw [e1] at hp
    clear hbr key K hfl hlen hget e1 e2 h8 HBR
    go_enter Try.func106, Try.ntmps106
    go_wp2
    go_returns
    exact ⟨ret_eq rfl, by go_grown⟩
end Go.Proofs.Ytbeojfhakmbacaa
