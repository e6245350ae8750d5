/- Rows of bytes that a text was turned into: their cells, stores, copies and the text of a part. -/
import Derived.Laws.IdiomStrings
import Derived.Laws.CopyRow
import Derived.Laws.CopyOwn
import Derived.Test.YtbeojfhakmbacaaStr
import Derived.Test.YtbeojfhakmbacaaOwn
import Derived.Test.YtbeojfhakmbacaaProg
namespace Go.Proofs.Ytbeojfhakmbacaa
open Go.RowKit
/-- Block g holds the bytes l at its head. -/
def BR (w : World) (g : Nat) (l : List UInt8) (cap : Nat) : Prop := ∃ cur fr, w.heap[g]? = some (.cells cur 5 fr) ∧ cur.toList.take l.length = l.map byteVal ∧ l.length ≤ cur.size ∧ cur.size ≤ fr.1 ∧ cur.size = cap
theorem BR.le {w : World} {g cap : Nat} {l : List UInt8} (h : BR w g l cap) : l.length ≤ cap := by obtain ⟨cur, fr, _, _, h3, _, h5⟩ := h; omega
theorem BR.lt {w : World} {g cap : Nat} {l : List UInt8} (h : BR w g l cap) : g < w.heap.size := by
  obtain ⟨cur, fr, h1, _⟩ := h
  exact (Array.getElem?_eq_some_iff.1 h1).1
theorem BR.cell {w : World} {g cap : Nat} {l : List UInt8} (h : BR w g l cap) {i : Nat} (hi : i < l.length) : w.cell? ⟨g, i, none⟩ = some (byteVal l[i]) := by
  obtain ⟨cur, fr, h1, h2, h3, _⟩ := h
  have h4 : cur[i]? = some (byteVal l[i]) := by
    have h5 : (cur.toList.take l.length)[i]? = (l.map byteVal)[i]? := by rw [h2]
    rw [List.getElem?_take, if_pos hi, List.getElem?_map, List.getElem?_eq_getElem hi] at h5
    simpa using h5
  simp [World.cell?, h1, h4]
theorem BR.frozen {w : World} {g cap : Nat} {l : List UInt8} (h : BR w g l cap) {i : Nat} (hi : i < l.length) : w.frozen? ⟨g, i, none⟩ = false := by
  obtain ⟨cur, fr, h1, _, h3, h4, _⟩ := h
  simp [World.frozen?, h1]
  omega
theorem BR.keep {w w' : World} {g cap : Nat} {l : List UInt8} (h : BR w g l cap) (hk : w'.heap[g]? = w.heap[g]?) : BR w' g l cap := by
  obtain ⟨cur, fr, h1, hr⟩ := h
  exact ⟨cur, fr, hk.trans h1, hr⟩
theorem BR.below {w w' : World} {g cap : Nat} {l : List UInt8} (h : BR w g l cap) (hb : Below w.heap.size w w') : BR w' g l cap := h.keep (hb.block g h.lt)
theorem BR.set {w : World} {g cap : Nat} {l : List UInt8} (h : BR w g l cap) {i : Nat} (c : UInt8) : BR (w.setCell ⟨g, i, none⟩ (byteVal c)) g (l.set i c) cap := by
  obtain ⟨cur, fr, h1, h2, h3, h4, h5⟩ := h
  refine ⟨cur.setIfInBounds i (byteVal c), fr, ?_, ?_, by simpa using h3, by simpa using h4, by simpa using h5⟩
  · rw [setCell_eq_setRow w g i cur _ fr _ h1]; exact setRow_heap w g _ _ _ _ h1
  · rw [Array.toList_setIfInBounds, List.length_set, List.take_set, h2, List.map_set]
theorem BR.part {w : World} {g cap : Nat} {l : List UInt8} (h : BR w g l cap) (k m c : Nat) (hkm : k + m ≤ l.length) :
    (convert 22 9 (.slice (some ⟨g, k, none⟩) m c)).run Try.prog w = .ok (.string (str ((l.drop k).take m))) w := by
  have hl : ((l.drop k).take m).length = m := by simp; omega
  have := run_convert_bytes_back (P := Try.prog) w 22 9 5 ⟨g, k, none⟩ c ((l.drop k).take m) Try.underlying22 Try.underlying5 Try.underlying9 (by
    intro j hj
    rw [hl] at hj
    have h2 := h.cell (i := k + j) (by omega)
    have e : (⟨g, k, none⟩ : Addr).add j = ⟨g, k + j, none⟩ := by unfold Addr.add; split <;> simp_all
    rw [e, h2]
    simp [byteVal])
  rw [hl] at this
  exact this
theorem BR.new (w : World) (s : ByteArray) :
    ∃ cap, (convert 9 22 (.string s)).run Try.prog w = .ok (.slice (some ⟨w.heap.size, 0, none⟩) s.size cap) (w.drew.alloc (.cells (bytesRow s cap) 5 ((bytesRow s cap).size, (bytesRow s cap).size + 1))) ∧
      BR (w.drew.alloc (.cells (bytesRow s cap) 5 ((bytesRow s cap).size, (bytesRow s cap).size + 1))) w.heap.size s.data.toList cap := by
  refine ⟨_, run_bytes_of_string w 9 22 5 s Try.underlying9 Try.underlying22 Try.underlying5, ?_⟩
  have hc : s.size ≤ grownCap w s.size 0 5 := grownCap_ge _ _ _ _
  have hsz : s.data.toList.length = s.size := by simp
  refine ⟨_, _, heap_alloc_new w.drew _, ?_, ?_, Nat.le_refl _, ?_⟩
  · rw [hsz]
    unfold bytesRow
    rw [Array.toList_append, List.take_append_of_le_length (by simp), List.take_of_length_le (by simp)]
    simp [byteVal]
  · rw [hsz]; unfold bytesRow; simp
  · unfold bytesRow; simp; omega
/-- A store of many cells into a row that bears a mark behind its end. -/
theorem store_marked (P : Program) (g o : Nat) (t : TypeId) (fr : Nat × Nat) : ∀ (vs : List Value) (i : Nat) (cur : Array Value) (w : World), w.heap[g]? = some (.cells cur t fr) → cur.size ≤ fr.1 → o + i + vs.length ≤ cur.size → (∀ v ∈ vs, v.oneCell' = true) →
    (storeCells ⟨g, o, none⟩ vs i).run P w = .ok () (w.setRow g (cur.toList.take (o + i) ++ vs ++ cur.toList.drop (o + i + vs.length)).toArray)
  | [], i, cur, w, hg, _, _, _ => by
    simp only [storeCells, List.append_nil, List.length_nil, Nat.add_zero, List.take_append_drop, Array.toArray_toList]
    rw [setRow_self w g cur t fr hg]
    rfl
  | v :: rest, i, cur, w, hg, hf, hl, h1 => by
    have hi : o + i < cur.size := by simp at hl; omega
    have hadd : (⟨g, o, none⟩ : Addr).add i = ⟨g, o + i, none⟩ := by unfold Addr.add; split <;> simp_all
    have hcell : w.cell? ⟨g, o + i, none⟩ = some cur[o + i] := by simp [World.cell?, hg, hi]
    have hfro : w.frozen? ⟨g, o + i, none⟩ = false := by simp [World.frozen?, hg]; omega
    have hst : (store ((⟨g, o, none⟩ : Addr).add i) v).run P w = .ok () (w.setRow g (cur.setIfInBounds (o + i) v)) := by
      rw [hadd, run_store P w _ v _ (h1 v (by simp)), hcell]
      simp [hfro, setCell_eq_setRow w g (o + i) cur t fr v hg]
    have ih := store_marked P g o t fr rest (i + 1) (cur.setIfInBounds (o + i) v) (w.setRow g (cur.setIfInBounds (o + i) v)) (setRow_heap w g cur _ t _ hg) (by simpa using hf) (by simp at hl ⊢; omega) (fun x hx => h1 x (by simp [hx]))
    simp only [storeCells, Sem.run_bind, hst, Result.andThen_ok, ih, setRow_setRow]
    congr 3
    have e := list_seg_step cur.toList (o + i) v rest (by simp at hl ⊢; omega)
    simpa [Array.toList_setIfInBounds, Nat.add_assoc] using e
/-- A text copied into such a row. -/
theorem BR.copy {w : World} {g cap : Nat} {l : List UInt8} (h : BR w g l cap) (s : List UInt8) (o dLen dCap : Nat) (hle : s.length ≤ dLen) (hfit : o + s.length ≤ l.length) :
    ∃ C, (∀ ty, (Builtin.copy_ #[22, 9] ty #[.slice (some ⟨g, o, none⟩) dLen dCap, .string (str s)]).run Try.prog w = .ok (goInt s.length) (w.setRow g C)) ∧ BR (w.setRow g C) g (l.take o ++ s ++ l.drop (o + s.length)) cap := by
  obtain ⟨cur, fr, h1, h2, h3, h4, h5⟩ := h
  have hss : (str s).size = s.length := str_size s
  have hsl : (str s).data.toList = s := str_list s
  have hst := store_marked Try.prog g o 5 fr (s.map byteVal) 0 cur w h1 h4 (by simp; omega) (by intro v hv; simp only [List.mem_map] at hv; obtain ⟨b, _, rfl⟩ := hv; rfl)
  have hmin : Nat.min s.length dLen = s.length := Nat.min_eq_left hle
  refine ⟨_, fun ty => ?_, cur.toList.take o ++ s.map byteVal ++ cur.toList.drop (o + s.length) |>.toArray, fr, setRow_heap w g _ _ _ _ h1, ?_, ?_, ?_, ?_⟩
  · have hi : (Try.prog.info? 5).map (fun i => (i.zero, i.size, i.bytes)) = some (some (.int .u8 0), 1, 1) := by kernel_rfl
    have htk : List.take s.length (List.map (fun b : UInt8 => Value.int IntKind.u8 (b.toNat : Int)) (str s).data.toList) = s.map byteVal := by
      rw [hsl, List.take_of_length_le (by simp)]; rfl
    simp only [Nat.add_zero] at hst
    cases hq : Try.prog.info? 5 with
    | none => simp [hq] at hi
    | some i =>
      simp [Builtin.copy_, run_underlying Try.underlying22, Builtin.lenOf, Builtin.firstCells, sizeOf, typeInfo, hq, hss, hmin]
      rw [htk, hst]
      simp [Result.andThen]
  · have e : (l.take o ++ s ++ l.drop (o + s.length)).length = l.length := by simp; omega
    have e2 : cur.toList.take o = (l.take o).map byteVal := by
      have := congrArg (List.take o) h2
      rw [List.take_take, Nat.min_eq_left (by omega)] at this
      rw [this, List.map_take]
    rw [e, List.toList_toArray, List.append_assoc, List.take_append, List.take_append]
    rw [List.take_of_length_le (l := cur.toList.take o) (by simp; omega), List.take_of_length_le (l := s.map byteVal) (by simp; omega), e2]
    rw [List.map_append, List.map_append, List.append_assoc]
    congr 2
    have := congrArg (List.drop (o + s.length)) h2
    rw [List.drop_take] at this
    rw [List.map_drop, ← this]
    congr 1
    simp; omega
  · simp; omega
  · simp; omega
  · simp; omega
end Go.Proofs.Ytbeojfhakmbacaa
