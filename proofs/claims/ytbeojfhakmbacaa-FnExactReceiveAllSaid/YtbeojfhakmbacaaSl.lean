/- Slices of points and of numbers: what they read as. -/
import Derived.Test.YtbeojfhakmbacaaOwn
namespace Go.Proofs.Ytbeojfhakmbacaa
open Go.RowKit

abbrev Pt := Int × Int
def flat (l : List Pt) : List Value := l.flatMap fun p => [.int .i64 p.1, .int .i64 p.2]
def px (l : List Pt) (k : Nat) : Int := (l.getD k (0, 0)).1
def py (l : List Pt) (k : Nat) : Int := (l.getD k (0, 0)).2
def nth (l : List Int) (k : Nat) : Int := l.getD k 0
def ints (l : List Int) : List Value := l.map (.int .i64)
theorem flat_cons (p : Pt) (l : List Pt) : flat (p :: l) = .int .i64 p.1 :: .int .i64 p.2 :: flat l := rfl
theorem flat_nil : flat [] = [] := rfl
theorem flat_app (a b : List Pt) : flat (a ++ b) = flat a ++ flat b := by simp [flat]
theorem flat_len : ∀ l : List Pt, (flat l).length = l.length * 2
  | [] => rfl
  | p :: l => by rw [flat_cons, List.length_cons, List.length_cons, flat_len l, List.length_cons]; omega
theorem flat_at : ∀ (l : List Pt) (k : Nat), k < l.length → (flat l)[k * 2]? = some (.int .i64 (px l k)) ∧ (flat l)[k * 2 + 1]? = some (.int .i64 (py l k))
  | p :: l, 0, _ => ⟨rfl, rfl⟩
  | p :: l, k + 1, h => by
    have ih := flat_at l k (by simpa using h)
    have e1 : (k + 1) * 2 = k * 2 + 1 + 1 := by omega
    have e2 : (k + 1) * 2 + 1 = k * 2 + 1 + 1 + 1 := by omega
    rw [flat_cons, e2, e1]
    simp only [List.getElem?_cons_succ]
    exact ih
theorem ints_len (l : List Int) : (ints l).length = l.length := by simp [ints]
theorem ints_at (l : List Int) (k : Nat) (h : k < l.length) : (ints l)[k]? = some (.int .i64 (nth l k)) := by
  simp [ints, nth, List.getElem?_map, List.getElem?_eq_getElem h]
theorem add_one (a : Addr) : a.add 1 = ⟨a.block, a.off + 1, none⟩ := by simp [Addr.add]
section
variable {w w' : World} {B n : Nat} {A : Option Addr}
theorem Reads.pt {l : List Pt} (h : Reads w B 2 A n (flat l)) {k : Nat} (hk : k < l.length) :
    ∃ ad : Addr, A = some ad ∧ ad.block < B ∧ w.cell? (ad.add (k * 2)) = some (.int .i64 (px l k)) ∧ w.cell? ⟨(ad.add (k * 2)).block, (ad.add (k * 2)).off + 1, none⟩ = some (.int .i64 (py l k)) := by
  have hn : n = l.length := by have := h.1; rw [flat_len] at this; omega
  obtain ⟨ad, e, hb, hc⟩ := h.2 (by omega)
  exact ⟨ad, e, hb, hc _ _ (flat_at l k hk).1, by rw [← add_one, add_of_add]; exact hc _ _ (flat_at l k hk).2⟩
theorem Reads.num {l : List Int} (h : Reads w B 1 A n (ints l)) {k : Nat} (hk : k < l.length) :
    ∃ ad : Addr, A = some ad ∧ ad.block < B ∧ w.cell? (ad.add k) = some (.int .i64 (nth l k)) := by
  have hn : n = l.length := by have := h.1; rw [ints_len] at this; omega
  obtain ⟨ad, e, hb, hc⟩ := h.2 (by omega)
  exact ⟨ad, e, hb, hc _ _ (ints_at l k hk)⟩
theorem reads_below {size : Nat} {xs : List Value} (h : Reads w w.heap.size size A n xs) (hb : Below w.heap.size w w') : Reads w' w'.heap.size size A n xs := (h.below hb).more hb.size
theorem Reads.len {l : List Pt} (h : Reads w B 2 A n (flat l)) : n = l.length := by have := h.1; rw [flat_len] at this; omega
theorem Reads.leni {l : List Int} (h : Reads w B 1 A n (ints l)) : n = l.length := by have := h.1; rw [ints_len] at this; omega
end
theorem take_pt (l : List Pt) (k : Nat) (h : k < l.length) : l.take (k + 1) = l.take k ++ [(px l k, py l k)] := by
  have e : (px l k, py l k) = l[k] := by simp [px, py, List.getElem?_eq_getElem h]
  rw [e, List.take_succ_eq_append_getElem h]
theorem take_num (l : List Int) (k : Nat) (h : k < l.length) : l.take (k + 1) = l.take k ++ [nth l k] := by
  have e : nth l k = l[k] := by simp [nth, List.getElem?_eq_getElem h]
  rw [e, List.take_succ_eq_append_getElem h]
theorem ints_snoc (l : List Int) (x : Int) : ints (l ++ [x]) = ints l ++ [.int .i64 x] := by simp [ints]
theorem flat_snoc (l : List Pt) (p : Pt) : flat (l ++ [p]) = flat l ++ [.int .i64 p.1, .int .i64 p.2] := by simp [flat]
theorem px_mem {l : List Pt} {k : Nat} (h : k < l.length) : (px l k, py l k) ∈ l := by
  have e : (px l k, py l k) = l[k] := by simp [px, py, List.getElem?_eq_getElem h]
  rw [e]; exact List.getElem_mem h
theorem nth_mem {l : List Int} {k : Nat} (h : k < l.length) : nth l k ∈ l := by
  have e : nth l k = l[k] := by simp [nth, List.getElem?_eq_getElem h]
  rw [e]; exact List.getElem_mem h
/-- A slice that a call hands back: where it lies. -/
theorem own_slice {w : World} {base : Nat} {e : TypeId} {size : Nat} {v : Value} {n : Nat} {xs : List Value} (h : w.ownsRow base e size v n xs) : ∃ A c, v = .slice A n c := by
  rcases h.2 with ⟨rfl, rfl⟩ | ⟨g, cap, _, rfl, _⟩
  · exact ⟨_, _, rfl⟩
  · exact ⟨_, _, rfl⟩
/-- A call that hands back a slice of its own. -/
def GivesS (w : World) (e : TypeId) (size n : Nat) (xs : List Value) (f : Value → Value) (r : Ending) (w' : World) : Prop :=
  ∃ A c, r = .returned (f (.slice A n c)) ∧ w'.ownsRow w.heap.size e size (.slice A n c) n xs ∧ Below w.heap.size w w'
theorem own_empty (w : World) {base : Nat} {e : TypeId} {size H : Nat} (hH : w.heap.size = H) (hb : base ≤ H) : (w.alloc (.cells #[] e)).ownsRow base e size (.slice (some ⟨H, 0, none⟩) 0 0) 0 [] := by
  subst hH; exact World.ownsRow_made w #[] 0 hb (by decide) (by simp)
theorem own_mono {w : World} {base base' : Nat} {e : TypeId} {size : Nat} {v : Value} {n : Nat} {xs : List Value} (h : w.ownsRow base e size v n xs) (hb : base' ≤ base) : w.ownsRow base' e size v n xs :=
  ⟨h.1, h.2.imp id fun ⟨g, cap, cur, h1, h2, h3⟩ => ⟨g, cap, cur, h1, Nat.le_trans hb h2, h3⟩⟩
theorem own_reads {w : World} {base : Nat} {e : TypeId} {size : Nat} {A : Option Addr} {c n : Nat} {xs : List Value} (h : w.ownsRow base e size (.slice A n c) n xs) : Reads w w.heap.size size A n xs := Reads.of_own h
theorem news_two {w : World} {a : Addr} {x y : Value} (h : w.cell? a = some x) (h2 : w.cell? ⟨a.block, a.off + 1, none⟩ = some y) : ∀ j u, [x, y][j]? = some u → w.cell? (a.add j) = some u := by
  intro j u hj
  match j, hj with
  | 0, hj => simp at hj; subst hj; simpa [Addr.add] using h
  | 1, hj => simp at hj; subst hj; rw [add_one]; exact h2
def peq (p q : Pt) : Bool := decide (p = q)
/-! lists by their beginnings -/
theorem pts_step {a b : List Pt} {i : Nat} (h : a.take i = b.take i) (ha : i < a.length) (hb : i < b.length) (e : (px a i, py a i) = (px b i, py b i)) : a.take (i + 1) = b.take (i + 1) := by
  rw [take_pt a i ha, take_pt b i hb, h, e]
theorem pts_ne {a b : List Pt} {i : Nat} (h : (px a i, py a i) ≠ (px b i, py b i)) : a ≠ b := fun e => h (by rw [e])
theorem pts_all {a b : List Pt} (h : a.take a.length = b.take a.length) (hl : a.length = b.length) : a = b := by
  rw [List.take_length, hl, List.take_length] at h; exact h
theorem num_step {a b : List Int} {i : Nat} (h : a.take i = b.take i) (ha : i < a.length) (hb : i < b.length) (e : nth a i = nth b i) : a.take (i + 1) = b.take (i + 1) := by
  rw [take_num a i ha, take_num b i hb, h, e]
theorem num_ne {a b : List Int} {i : Nat} (h : nth a i ≠ nth b i) : a ≠ b := fun e => h (by rw [e])
theorem num_all {a b : List Int} (h : a.take a.length = b.take a.length) (hl : a.length = b.length) : a = b := by
  rw [List.take_length, hl, List.take_length] at h; exact h
theorem len_ne {α : Type} {a b : List α} (h : a.length ≠ b.length) : a ≠ b := fun e => h (by rw [e])
/-! numbers in a row -/
def seqV (m : Nat) (k : Int) : List Value := (List.range m).map fun i : Nat => .int .i64 (k + i)
theorem seqV_len (m : Nat) (k : Int) : (seqV m k).length = m := by simp [seqV]
theorem seqV_succ (m : Nat) (k : Int) : seqV (m + 1) k = seqV m k ++ [.int .i64 (k + m)] := by simp [seqV, List.range_succ]
theorem seqV_at {m i : Nat} (k : Int) (h : i < m) : (seqV m k)[i]? = some (.int .i64 (k + i)) := by simp [seqV, h]
theorem set_mid (a : List Value) (x y : Value) (b : List Value) {i : Nat} (h : i = a.length) : (a ++ x :: b).set i y = a ++ y :: b := by
  subst h; simp
theorem mark_step {xs : List Value} {i m : Nat} {k : Int} (hi : i < m) (hx : xs.length = m) : (seqV i k ++ xs.drop i).set i (.int .i64 (k + i)) = seqV (i + 1) k ++ xs.drop (i + 1) := by
  rw [List.drop_eq_getElem_cons (by omega), set_mid _ _ _ _ (seqV_len i k).symm, seqV_succ, List.append_assoc]; rfl
theorem mark_at {xs : List Value} {i m : Nat} {k : Int} (hi : i < m) (hx : xs.length = m) : ∃ u, (seqV i k ++ xs.drop i)[i]? = some u := by
  rw [List.getElem?_append_right (by rw [seqV_len]; omega), seqV_len, Nat.sub_self, List.getElem?_drop]
  exact ⟨_, List.getElem?_eq_getElem (by omega)⟩
def zs (m : Nat) : List Value := List.replicate m (.int .i64 0)
theorem zs_succ (m : Nat) : zs (m + 1) = .int .i64 0 :: zs m := rfl
theorem fill_num (l : List Int) {i r : Nat} (h : i + (r + 1) = l.length) : (ints (l.take i) ++ zs (r + 1)).set i (.int .i64 (nth l i)) = ints (l.take (i + 1)) ++ zs r := by
  rw [zs_succ, set_mid _ _ _ _ (by rw [ints_len, List.length_take]; omega), take_num l i (by omega), ints_snoc, List.append_assoc]; rfl
theorem fill_pt (l : List Pt) {i r : Nat} (h : i + (r + 1) = l.length) : ((flat (l.take i) ++ zs ((r + 1) * 2)).set (i * 2) (.int .i64 (px l i))).set (i * 2 + 1) (.int .i64 (py l i)) = flat (l.take (i + 1)) ++ zs (r * 2) := by
  have e : zs ((r + 1) * 2) = .int .i64 0 :: .int .i64 0 :: zs (r * 2) := by
    rw [show (r + 1) * 2 = r * 2 + 1 + 1 from by omega, zs_succ, zs_succ]
  have hl : (flat (l.take i)).length = i * 2 := by rw [flat_len, List.length_take]; omega
  rw [e, set_mid _ _ _ _ hl.symm, take_pt l i (by omega), flat_snoc]
  have e2 : flat (l.take i) ++ Value.int .i64 (px l i) :: Value.int .i64 0 :: zs (r * 2) = (flat (l.take i) ++ [Value.int .i64 (px l i)]) ++ Value.int .i64 0 :: zs (r * 2) := by simp
  rw [e2, set_mid _ _ _ _ (by simp [hl])]
  simp
theorem zs_made1 (n : Nat) : (madeCells (Value.int .i64 0).cells (n * 1)).toList = zs n := by
  rw [Nat.mul_one]; exact toList_madeCells_one _ _
theorem zs_made2 (n : Nat) : (madeCells (Value.agg #[.int .i64 0, .int .i64 0]).cells (n * 2)).toList = zs (n * 2) := by
  apply List.ext_getElem?
  intro j
  by_cases hj : j < n * 2
  · have h2 : j % 2 = 0 ∨ j % 2 = 1 := by omega
    rcases h2 with h2 | h2 <;> simp [madeCells, zs, hj, Value.cells, h2]
  · simp [madeCells, zs, hj]
theorem grown_trans {a b c : World} {row : Option Nat} (h : a.grownBy b row) (h' : b.grownBy c row) : a.grownBy c row :=
  ⟨h'.os.trans h.os, h'.tape.trans h.tape, h'.output.trans h.output, Nat.le_trans h.size h'.size, fun k hk hr => (h'.block k (Nat.lt_of_lt_of_le hk h.size) hr).trans (h.block k hk hr)⟩
theorem Reads.two {w : World} {B n : Nat} {A : Option Addr} {xs : List Value} (h : Reads w B 2 A n xs) {k : Nat} (hk : k < n) {u v : Value} (hu : xs[k * 2]? = some u) (hv : xs[k * 2 + 1]? = some v) :
    ∃ ad : Addr, A = some ad ∧ ad.block < B ∧ w.cell? (ad.add (k * 2)) = some u ∧ w.cell? ⟨(ad.add (k * 2)).block, (ad.add (k * 2)).off + 1, none⟩ = some v := by
  obtain ⟨ad, e, hb, hc⟩ := h.2 (by omega)
  exact ⟨ad, e, hb, hc _ _ hu, by rw [← add_one, add_of_add]; exact hc _ _ hv⟩
theorem Reads.one {w : World} {B n : Nat} {A : Option Addr} {xs : List Value} (h : Reads w B 1 A n xs) {k : Nat} (hk : k < n) {u : Value} (hu : xs[k]? = some u) :
    ∃ ad : Addr, A = some ad ∧ ad.block < B ∧ w.cell? (ad.add k) = some u := by
  obtain ⟨ad, e, hb, hc⟩ := h.2 (by omega)
  exact ⟨ad, e, hb, hc _ _ hu⟩
theorem own_at {w : World} {base : Nat} {e : TypeId} {size : Nat} {A : Option Addr} {c n : Nat} {xs : List Value} (h : w.ownsRow base e size (.slice A n c) n xs) (hn : n ≠ 0) : ∃ g, A = some ⟨g, 0, none⟩ ∧ base ≤ g ∧ g < w.heap.size := by
  obtain ⟨g, cap, hv, h2, h3⟩ := World.ownsRow.form h (by omega)
  injection hv with hv _ _
  exact ⟨g, hv, h2, h3⟩
/-- Numbers put into a row from its head on. -/
theorem mark_own1 {w : World} {base g : Nat} {e : TypeId} {n c i : Nat} {xs : List Value} {k : Int} (h : w.ownsRow base e 1 (.slice (some ⟨g, 0, none⟩) n c) n (seqV i k ++ xs.drop i)) (hi : i < n) (hx : xs.length = n) :
    (∃ u, w.cell? ⟨g, i, none⟩ = some u) ∧ w.frozen? ⟨g, i, none⟩ = false ∧ (w.setCell ⟨g, i, none⟩ (.int .i64 (k + i))).ownsRow base e 1 (.slice (some ⟨g, 0, none⟩) n c) n (seqV (i + 1) k ++ xs.drop (i + 1)) ∧ w.grownBy (w.setCell ⟨g, i, none⟩ (.int .i64 (k + i))) (some g) := by
  obtain ⟨u, hu⟩ := mark_at (k := k) hi hx
  have hs := h.stored i (.int .i64 (k + i))
  rw [mark_step hi hx] at hs
  exact ⟨⟨u, by rw [h.cellAt i (by omega)]; exact hu⟩, h.frozenAt i, hs.1, hs.2⟩
theorem mark_own2 {w : World} {base g : Nat} {e : TypeId} {n c j : Nat} {xs : List Value} {k : Int} (h : w.ownsRow base e 2 (.slice (some ⟨g, 0, none⟩) n c) n (seqV j k ++ xs.drop j)) (hi : j < n * 2) (hx : xs.length = n * 2) :
    (∃ u, w.cell? ⟨g, j, none⟩ = some u) ∧ w.frozen? ⟨g, j, none⟩ = false ∧ (w.setCell ⟨g, j, none⟩ (.int .i64 (k + j))).ownsRow base e 2 (.slice (some ⟨g, 0, none⟩) n c) n (seqV (j + 1) k ++ xs.drop (j + 1)) ∧ w.grownBy (w.setCell ⟨g, j, none⟩ (.int .i64 (k + j))) (some g) := by
  obtain ⟨u, hu⟩ := mark_at (k := k) hi hx
  have hs := h.stored j (.int .i64 (k + j))
  rw [mark_step hi hx] at hs
  exact ⟨⟨u, by rw [h.cellAt j (by omega)]; exact hu⟩, h.frozenAt j, hs.1, hs.2⟩
theorem own_based {w : World} {base m : Nat} {e : TypeId} {size : Nat} {v : Value} {n : Nat} {xs : List Value} (h : w.ownsRow base e size v n xs) (hm : m ≤ base) : ∃ b, w.ownsRow b e size v n xs ∧ m ≤ b := ⟨base, h, hm⟩
theorem own_ne {w w' : World} {b1 b2 : Nat} {e1 e2 : TypeId} {s1 s2 n1 n2 : Nat} {v1 v2 : Value} {x1 x2 : List Value} (h1 : w.ownsRow b1 e1 s1 v1 n1 x1) (h2 : w'.ownsRow b2 e2 s2 v2 n2 x2) (hle : w.heap.size ≤ b2) :
    (v1.ownBlock = none ∨ v1.ownBlock ≠ v2.ownBlock) ∧ (v2.ownBlock = none ∨ v2.ownBlock ≠ v1.ownBlock) := by
  cases e1' : v1.ownBlock with
  | none =>
    refine ⟨.inl rfl, ?_⟩
    cases e2' : v2.ownBlock with
    | none => exact .inl rfl
    | some k => exact .inr (by simp)
  | some k1 =>
    have hk1 := (h1.lt k1 e1').2
    cases e2' : v2.ownBlock with
    | none => exact ⟨.inr (by simp), .inl rfl⟩
    | some k2 =>
      have hk2 := (h2.lt k2 e2').1
      exact ⟨.inr (fun e => by injection e with e; omega), .inr (fun e => by injection e with e; omega)⟩
theorem own_cap {w : World} {base : Nat} {e : TypeId} {size : Nat} {A : Option Addr} {c n : Nat} {xs : List Value} (h : w.ownsRow base e size (.slice A n c) n xs) : n ≤ c := by
  rcases h.2 with ⟨hv, _⟩ | ⟨g, cap, cur, hv, _, _, hc, _⟩
  · injection hv with _ h1 h2; omega
  · injection hv with _ _ h2; omega
theorem flat_drop : ∀ (l : List Pt) (k : Nat), (flat l).drop (k * 2) = flat (l.drop k)
  | l, 0 => by simp
  | [], k + 1 => by simp [flat]
  | p :: l, k + 1 => by
    rw [flat_cons, show (k + 1) * 2 = k * 2 + 1 + 1 from by omega, List.drop_succ_cons, List.drop_succ_cons, flat_drop l k, List.drop_succ_cons]
theorem flat_take : ∀ (l : List Pt) (k : Nat), (flat l).take (k * 2) = flat (l.take k)
  | l, 0 => by simp [flat]
  | [], k + 1 => by simp [flat]
  | p :: l, k + 1 => by
    rw [flat_cons, show (k + 1) * 2 = k * 2 + 1 + 1 from by omega, List.take_succ_cons, List.take_succ_cons, flat_take l k, List.take_succ_cons, flat_cons]
theorem flat_one (l : List Pt) : ∀ u ∈ flat l, u.oneCell' = true := by
  intro u hu
  simp only [flat, List.mem_flatMap, List.mem_cons, List.not_mem_nil, or_false] at hu
  obtain ⟨p, _, rfl | rfl⟩ := hu <;> rfl
theorem ints_one (l : List Int) : ∀ u ∈ ints l, u.oneCell' = true := by
  intro u hu
  simp only [ints, List.mem_map] at hu
  obtain ⟨p, _, rfl⟩ := hu; rfl
theorem Reads.front {w : World} {B size n k : Nat} {A : Option Addr} {xs : List Value} (h : Reads w B size A n xs) (hk : k ≤ n) : Reads w B size A k (xs.take (k * size)) := by
  refine ⟨by rw [List.length_take, h.1]; exact Nat.min_eq_left (Nat.mul_le_mul_right _ hk), fun hn => ?_⟩
  obtain ⟨ad, e, hb, hc⟩ := h.2 (by omega)
  refine ⟨ad, e, hb, fun j u hu => hc j u ?_⟩
  rw [List.getElem?_take] at hu
  split at hu
  · exact hu
  · cases hu
theorem Reads.back {w : World} {B size n k : Nat} {ad : Addr} {xs : List Value} (h : Reads w B size (some ad) n xs) (hk : k ≤ n) : Reads w B size (some (ad.add (k * size))) (n - k) (xs.drop (k * size)) := by
  refine ⟨by rw [List.length_drop, h.1, Nat.sub_mul], fun hn => ?_⟩
  obtain ⟨ad', e, hb, hc⟩ := h.2 (by omega)
  injection e with e
  subst e
  refine ⟨_, rfl, by rw [block_of_add]; exact hb, fun j u hu => ?_⟩
  rw [add_of_add]
  exact hc _ u (by rw [← hu, List.getElem?_drop])
theorem Reads.none_back {w : World} {B size : Nat} (A : Option Addr) : Reads w B size A 0 [] := ⟨by simp, fun hn => absurd hn (by omega)⟩
def dropL (l : List Pt) (i : Nat) : List Pt := l.take i ++ l.drop (i + 1)
def dropI (l : List Int) (i : Nat) : List Int := l.take i ++ l.drop (i + 1)
theorem dropL_flat (l : List Pt) (i : Nat) : flat (dropL l i) = (flat l).take (i * 2) ++ (flat l).drop ((i + 1) * 2) := by
  rw [dropL, flat_app, flat_take, flat_drop]
theorem dropL_len {l : List Pt} {i : Nat} (h : i < l.length) : (dropL l i).length = i + (l.length - (i + 1)) := by
  rw [dropL, List.length_append, List.length_take, List.length_drop]; omega
theorem dropI_len {l : List Int} {i : Nat} (h : i < l.length) : (dropI l i).length = i + (l.length - (i + 1)) := by
  rw [dropI, List.length_append, List.length_take, List.length_drop]; omega
theorem dropI_ints (l : List Int) (i : Nat) : ints (dropI l i) = (ints l).take (i * 1) ++ (ints l).drop ((i + 1) * 1) := by
  simp [dropI, ints]
theorem own_pt {w : World} {base g c n : Nat} {e : TypeId} {l : List Pt} (h : w.ownsRow base e 2 (.slice (some ⟨g, 0, none⟩) n c) n (flat l)) {k : Nat} (hk : k < l.length) :
    w.cell? ⟨g, k * 2, none⟩ = some (.int .i64 (px l k)) ∧ w.cell? ⟨g, k * 2 + 1, none⟩ = some (.int .i64 (py l k)) := by
  have hn : l.length * 2 = n * 2 := by have := h.1; rw [flat_len] at this; exact this
  obtain ⟨h1, h2⟩ := flat_at l k hk
  exact ⟨by rw [h.cellAt _ (by omega)]; exact h1, by rw [h.cellAt _ (by omega)]; exact h2⟩
end Go.Proofs.Ytbeojfhakmbacaa
