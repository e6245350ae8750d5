/- Rows of rows: the classes that the reference keeps. -/
import Derived.Test.YtnocgcfepkdjeaaBlMath
import Derived.Test.YtnocgcfepkdjeaaSl
namespace Go.Proofs.Ytnocgcfepkdjeaa
open Go.RowKit

theorem own_types {w : World} {b1 b2 : Nat} {e1 e2 : TypeId} {s1 s2 n1 n2 : Nat} {v1 v2 : Value} {x1 x2 : List Value} (h1 : w.ownsRow b1 e1 s1 v1 n1 x1) (h2 : w.ownsRow b2 e2 s2 v2 n2 x2) (hne : e1 ≠ e2) : v1.ownBlock = none ∨ v1.ownBlock ≠ v2.ownBlock := by
  rcases h1.2 with ⟨rfl, _⟩ | ⟨g1, c1, cur1, rfl, _, hb1, _⟩
  · exact .inl rfl
  · rcases h2.2 with ⟨rfl, _⟩ | ⟨g2, c2, cur2, rfl, _, hb2, _⟩
    · exact .inr (by simp [Value.ownBlock])
    · refine .inr (fun e => ?_)
      have e' : g1 = g2 := Option.some.inj e
      subst e'
      rw [hb1] at hb2
      injection hb2 with hb2
      injection hb2 with _ ht _
      exact hne ht
/-- What the reference keeps: the rows seen (a row of rows) and how often. -/
structure BlI (w : World) (H : Nat) (E1 E2 : TypeId) (sv tv : Value) (vals : List Value) (K : List (List Int)) (T : List Int) : Prop where
  len : vals.length = K.length
  seen : w.ownsRow H E2 1 sv K.length vals
  times : w.ownsRow H E1 1 tv T.length (ints T)
  els : ∀ (k : Nat) (a : List Int), K[k]? = some a → ∃ g c : Nat, vals[k]? = some (Value.slice (some ⟨g, 0, none⟩) a.length c) ∧ w.ownsRow H E1 1 (.slice (some ⟨g, 0, none⟩) a.length c) a.length (ints a) ∧ some g ≠ tv.ownBlock
section
variable {w w1 : World} {H : Nat} {E1 E2 : TypeId} {sv tv : Value} {vals : List Value} {K : List (List Int)} {T : List Int}
theorem BlI.below (h : BlI w H E1 E2 sv tv vals K T) (hb : Below w.heap.size w w1) : BlI w1 H E1 E2 sv tv vals K T :=
  ⟨h.len, own_below h.seen hb, own_below h.times hb, fun k a hk => by
    obtain ⟨g, c, h1, h2, h3⟩ := h.els k a hk
    exact ⟨g, c, h1, own_below h2 hb, h3⟩⟩
theorem BlI.nil (h1 : w.ownsRow H E2 1 sv 0 []) (h2 : w.ownsRow H E1 1 tv 0 []) : BlI w H E1 E2 sv tv [] [] [] := ⟨rfl, h1, h2, fun k a hk => by simp at hk⟩
theorem BlI.row {B : Option Addr} {n d : Nat} (h : BlI w H E1 E2 (.slice B n d) tv vals K T) (hn : n = K.length) {k : Nat} {a : List Int} (hk : K[k]? = some a) :
    ∃ gs g c, B = some ⟨gs, 0, none⟩ ∧ gs < w.heap.size ∧ w.cell? ⟨gs, k, none⟩ = some (.slice (some ⟨g, 0, none⟩) a.length c) ∧ Reads w w.heap.size 1 (some ⟨g, 0, none⟩) a.length (ints a) := by
  subst hn
  have hlt : k < K.length := (List.getElem?_eq_some_iff.1 hk).1
  obtain ⟨gs, rfl, _, hgs⟩ := own_at h.seen (by omega)
  obtain ⟨g, c, h1, h2, _⟩ := h.els k a hk
  exact ⟨gs, g, c, rfl, hgs, by rw [h.seen.cellAt k (by omega), h1], own_reads h2⟩
theorem BlI.push (h : BlI w H E1 E2 sv tv vals K T) (hE : E1 ≠ E2) {ga c : Nat} {a : List Int} (ha : w.ownsRow H E1 1 (.slice (some ⟨ga, 0, none⟩) a.length c) a.length (ints a)) (hat : some ga ≠ tv.ownBlock)
    {sv' : Value} (hg : w.grownBy w1 sv.ownBlock) (hs : w1.ownsRow H E2 1 sv' (K.length + 1) (vals ++ [.slice (some ⟨ga, 0, none⟩) a.length c])) :
    BlI w1 H E1 E2 sv' tv (vals ++ [.slice (some ⟨ga, 0, none⟩) a.length c]) (K ++ [a]) T := by
  refine ⟨by simp [h.len], by simpa using hs, h.times.kept hg (own_types h.times h.seen hE), fun k x hk => ?_⟩
  by_cases hlt : k < K.length
  · rw [List.getElem?_append_left hlt] at hk
    obtain ⟨g, c2, h1, h2, h3⟩ := h.els k x hk
    exact ⟨g, c2, by rw [List.getElem?_append_left (by rw [h.len]; exact hlt)]; exact h1, h2.kept hg (own_types h2 h.seen hE), h3⟩
  · have hk2 : k < (K ++ [a]).length := (List.getElem?_eq_some_iff.1 hk).1
    have hk3 : k = K.length := by simp at hk2; omega
    subst hk3
    have hx : a = x := by simpa using hk
    subst hx
    exact ⟨ga, c, by rw [List.getElem?_append_right (by rw [h.len]; omega), h.len]; simp, ha.kept hg (own_types ha h.seen hE), hat⟩
theorem BlI.more (h : BlI w H E1 E2 sv tv vals K T) (hE : E1 ≠ E2) {g n c : Nat} {x : Int} (hg : w.grownBy w1 tv.ownBlock) (ht : w1.ownsRow H E1 1 (.slice (some ⟨g, 0, none⟩) n c) (T.length + 1) (ints T ++ [.int .i64 x])) {h9 : Nat} (hold : tv.ownBlock = some g ∨ g = h9) (h9l : w.heap.size ≤ h9) :
    BlI w1 H E1 E2 sv (.slice (some ⟨g, 0, none⟩) n c) vals K (T ++ [x]) := by
  refine ⟨h.len, h.seen.kept hg (own_types h.seen h.times (fun e => hE e.symm)), by simpa [ints] using ht, fun k a hk => ?_⟩
  obtain ⟨g2, c2, h1, h2, h3⟩ := h.els k a hk
  refine ⟨g2, c2, h1, h2.kept hg (.inr h3), fun e => ?_⟩
  have e2 : g2 = g := Option.some.inj e
  subst e2
  rcases hold with ho | ho
  · exact h3 ho.symm
  · have := (h2.lt g2 rfl).2; omega
theorem BlI.set {g e : Nat} (h : BlI w H E1 E2 sv (.slice (some ⟨g, 0, none⟩) T.length e) vals K T) (hE : E1 ≠ E2) (j : Nat) (x : Int) :
    BlI (w.setCell ⟨g, j, none⟩ (.int .i64 x)) H E1 E2 sv (.slice (some ⟨g, 0, none⟩) (T.set j x).length e) vals K (T.set j x) := by
  have hs := h.times.stored j (.int .i64 x)
  have ho : (Value.slice (some ⟨g, 0, none⟩) T.length e).ownBlock = some g := rfl
  refine ⟨h.len, h.seen.kept hs.2 (own_types h.seen h.times (fun e => hE e.symm)), ?_, fun k a hk => ?_⟩
  · rw [List.length_set]
    have e1 : ints (T.set j x) = (ints T).set j (.int .i64 x) := by simp [ints, List.map_set]
    rw [e1]; exact hs.1
  · obtain ⟨g2, c2, h1, h2, h3⟩ := h.els k a hk
    exact ⟨g2, c2, h1, h2.kept hs.2 (.inr h3), by rw [ho] at h3; exact h3⟩
end
/-- Half normed. -/
def mixL (a b : List Int) (m : Nat) : List Int := a.take m ++ b.drop m
theorem mix_all (a b : List Int) (h : a.length = b.length) : mixL a b a.length = a := by
  unfold mixL; rw [h, List.drop_length, ← h, List.take_length, List.append_nil]
theorem mix_zero (a b : List Int) : mixL a b 0 = b := by simp [mixL]
theorem mix_len {a b : List Int} (h : a.length = b.length) (m : Nat) (hm : m ≤ a.length) : (mixL a b m).length = a.length := by simp [mixL]; omega
theorem mix_low {a b : List Int} {m i : Nat} (hi : i < m) (hm : m ≤ a.length) : (ints (mixL a b m))[i]? = some (.int .i64 (nth a i)) := by
  have h1 : i < (a.take m).length := by rw [List.length_take]; omega
  have h2 : i < a.length := by omega
  unfold ints mixL nth
  rw [List.map_append, List.getElem?_append_left (by simpa using h1), List.getElem?_map, List.getElem?_take, if_pos hi, List.getElem?_eq_getElem h2, List.getD_eq_getElem?_getD, List.getElem?_eq_getElem h2]
  rfl
theorem mix_set {a b : List Int} {m : Nat} (h : a.length = b.length) (hm : m < a.length) : (ints (mixL a b (m + 1))).set m (.int .i64 (nth b m)) = ints (mixL a b m) := by
  have hb : m < b.length := by omega
  have e1 : a.take (m + 1) = a.take m ++ [a[m]] := by rw [List.take_succ_eq_append_getElem hm]
  have e2 : b.drop m = b[m] :: b.drop (m + 1) := List.drop_eq_getElem_cons hb
  have e3 : nth b m = b[m] := by unfold nth; rw [List.getD_eq_getElem?_getD, List.getElem?_eq_getElem hb]; rfl
  unfold mixL
  rw [e1, e2, e3]
  unfold ints
  rw [List.map_append, List.map_append, List.map_append, List.append_assoc, List.map_cons, List.map_cons]
  exact set_mid _ _ _ _ (by simp; omega)
/-- The arrivals of a good list are small. -/
theorem arr_small {l : List Pt} (h : okS l = true) {x y : Int} (hp : pt (x, y) = true) {i : Nat} (hi : i < l.length) : 0 ≤ nth (arrL l (x, y) 0) i ∧ nth (arrL l (x, y) 0) i ≤ 60 := by
  rw [arrL_at hi]
  have := dst_pt ((okS_iff.1 h).2 i hi).1 hp
  omega
theorem arr_smallN {l : List Pt} (h : okS l = true) {x y : Int} (hp : pt (x, y) = true) : smallN (arrL l (x, y) 0) l.length := fun k hk => by
  have := arr_small h hp hk
  omega
theorem nrm_arr {l : List Pt} {p : Pt} {i : Nat} (hi : i < l.length) : nth (nrm l p) i = nth (arrL l p 0) i - nth (arrL l p 0) 0 := by
  rw [nrm_at hi, arrL_at hi, arrL_at (show 0 < l.length by omega)]; omega
theorem cl_bd (f : Nat → List Int) {n : Nat} {K : List (List Int)} {T : List Int} (h : ClOk f n K T) {j : Nat} (hj : j < T.length) : 0 ≤ nth T j ∧ nth T j ≤ n := by
  have hk : j < K.length := by rw [← h.len]; exact hj
  rw [h.num j hk K[j] (List.getElem?_eq_getElem hk)]
  have := List.count_le_length (a := K[j]) (l := (List.range n).map f)
  simp at this
  omega
theorem cl_size (f : Nat → List Int) : ∀ n, (clN f n).1.length ≤ n
  | 0 => Nat.le_refl _
  | n + 1 => by
    have ih := cl_size f n
    simp only [clN, clS]
    split
    · show (clN f n).1.length ≤ n + 1; omega
    · simp; omega
end Go.Proofs.Ytnocgcfepkdjeaa
