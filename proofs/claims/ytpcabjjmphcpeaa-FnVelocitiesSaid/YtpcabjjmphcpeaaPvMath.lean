/- Reading the text of a velocity: plain. -/
import Derived.Test.YtpcabjjmphcpeaaSplMath
import Derived.Test.YtpcabjjmphcpeaaTextMath
import Derived.Test.YtpcabjjmphcpeaaPhMath
namespace Go.Proofs.Ytpcabjjmphcpeaa
open Go.RowKit
theorem byteAt_list (l : List UInt8) (j : Nat) : byteAt (str l) j = ((l[j]?).map fun c => (c.toNat : Int)).getD (-1) := by
  by_cases h : j < l.length
  · have h2 : j < (str l).size := by rw [str_size]; exact h
    rw [byteAt_in h2, List.getElem?_eq_getElem h]
    rfl
  · have h2 : ¬ j < (str l).size := by rw [str_size]; exact h
    unfold byteAt
    rw [dif_neg h2, List.getElem?_eq_none (by omega)]; rfl
theorem byteAt_ne {l : List UInt8} {b : UInt8} (h : ∀ c ∈ l, c ≠ b) (j : Nat) : byteAt (str l) j ≠ (b.toNat : Int) := by
  rw [byteAt_list]
  cases e : l[j]? with
  | none => show (-1 : Int) ≠ _; omega
  | some c =>
    simp
    intro k
    exact h c (List.mem_of_getElem? e) (UInt8.toNat_inj.1 (by exact_mod_cast k))
theorem spS_none {s : ByteArray} {b : Int} : ∀ i, (∀ j, j < i → byteAt s j ≠ b) → spS s b i = ([], 0)
  | 0, _ => rfl
  | i + 1, h => by rw [spS, if_neg (h i (by omega)), spS_none i fun j hj => h j (by omega)]
theorem spS_more {s : ByteArray} {b : Int} (k : Nat) : ∀ i, (∀ j, k ≤ j → j < k + i → byteAt s j ≠ b) → spS s b (k + i) = spS s b k
  | 0, _ => rfl
  | i + 1, h => by rw [show k + (i + 1) = (k + i) + 1 from rfl, spS, if_neg (h (k + i) (by omega) (by omega)), spS_more k i fun j h1 h2 => h j h1 (by omega)]
theorem ext_all (l : List UInt8) : (str l).extract 0 l.length = str l := by rw [ext_str]; simp
theorem spL_one {l : List UInt8} (h : ∀ c ∈ l, c ≠ 32) : spL (str l) 32 = [str l] := by
  have e : spS (str l) 32 (str l).size = ([], 0) := spS_none _ fun j _ => byteAt_ne h j
  unfold spL; rw [e, str_size, ext_all]; rfl
theorem spL_two {p q : List UInt8} (hp : ∀ c ∈ p, c ≠ 32) (hq : ∀ c ∈ q, c ≠ 32) : spL (str (p ++ 32 :: q)) 32 = [str p, str q] := by
  obtain ⟨s, hs⟩ : ∃ s, str (p ++ 32 :: q) = s := ⟨_, rfl⟩
  have hz : s.size = p.length + 1 + q.length := by rw [← hs, str_size]; simp; omega
  have e0 : spS s 32 p.length = ([], 0) := spS_none _ fun j hj => by
    rw [← hs, byteAt_list, List.getElem?_append_left hj, ← byteAt_list]
    exact byteAt_ne hp j
  have e1 : byteAt s p.length = 32 := by
    rw [← hs, byteAt_list, List.getElem?_append_right (Nat.le_refl _)]; simp
  have e2 : spS s 32 (p.length + 1) = ([s.extract 0 p.length], p.length + 1) := by rw [spS, if_pos e1, e0]; rfl
  have e3 : spS s 32 (p.length + 1 + q.length) = spS s 32 (p.length + 1) := spS_more _ _ fun j h1 h2 => by
    rw [← hs, byteAt_list, List.getElem?_append_right (by omega), show j - p.length = (j - p.length - 1) + 1 from by omega, List.getElem?_cons_succ, ← byteAt_list]
    exact byteAt_ne hq _
  have e4 : s.extract 0 p.length = str p := by rw [← hs, ext_str]; simp
  have e5 : s.extract (p.length + 1) s.size = str q := by
    rw [hz, ← hs, ext_str, show p.length + 1 + q.length - (p.length + 1) = q.length from by omega]
    simp
  rw [hs]
  unfold spL
  rw [show spS s 32 s.size = ([s.extract 0 p.length], p.length + 1) from by rw [hz, e3, e2]]
  show [s.extract 0 p.length] ++ [s.extract (p.length + 1) s.size] = _
  rw [e4, e5]; rfl
def pvH (p : ByteArray) : List UInt8 := (p.extract 0 (p.size - 1)).data.toList
def pvC (p : ByteArray) : Int := byteAt p (p.size - 1)
def pvP (K : List UInt8 → Bool) (p : ByteArray) : Bool := decide (2 ≤ p.size) && K (pvH p)
def pvS (V : List UInt8 → Int) (v : Pt) (p : ByteArray) : Pt :=
  if pvC p = 78 then (v.1, V (pvH p)) else if pvC p = 83 then (v.1, -V (pvH p)) else if pvC p = 69 then (V (pvH p), v.2) else if pvC p = 87 then (-V (pvH p), v.2) else v
def pvF (V : List UInt8 → Int) (L : List ByteArray) : Pt := L.foldl (pvS V) (0, 0)
def pvG (K : List UInt8 → Bool) (V : List UInt8 → Int) (s : ByteArray) : Bool :=
  (spL s 32).all (pvP K) && (vV (pvF V (spL s 32)).1 (pvF V (spL s 32)).2 && decide (vtext (pvF V (spL s 32)).1 (pvF V (spL s 32)).2 = s))
def txt0 : ByteArray := ⟨#[48]⟩
def pvK (s : ByteArray) : Bool := decide (s = txt0) || pvG nOk nV s
def pvV (s : ByteArray) : Pt := if s = txt0 then (0, 0) else if pvG nOk nV s = true then pvF nV (spL s 32) else (0, 0)
/-- One part. -/
def pvT (m : Nat) (c : UInt8) : List UInt8 := decN m ++ [c]
theorem pvT_no {m : Nat} {c : UInt8} (h : c ≠ 32) : ∀ x ∈ pvT m c, x ≠ 32 := by
  intro x hx
  rcases List.mem_append.1 hx with e | e
  · have h1 := decN_all m
    rw [List.all_eq_true] at h1
    intro k
    have h2 := h1 x e
    rw [k] at h2
    exact absurd h2 (by decide)
  · simp at e; rw [e]; exact h
theorem pvT_size (m : Nat) (c : UInt8) : 2 ≤ (str (pvT m c)).size := by
  rw [str_size]; have := decN_len m; unfold pvT; simp; omega
theorem pvT_head (m : Nat) (c : UInt8) : pvH (str (pvT m c)) = decN m := by
  unfold pvH pvT; rw [ext_str, str_list, str_size]; simp
theorem pvT_last (m : Nat) (c : UInt8) : pvC (str (pvT m c)) = (c.toNat : Int) := by
  unfold pvC pvT; rw [byteAt_list, str_size]; simp
theorem pvT_ok {K : List UInt8 → Bool} {m : Nat} {c : UInt8} (h : K (decN m) = true) : pvP K (str (pvT m c)) = true := by
  unfold pvP; rw [pvT_head, h, decide_eq_true (pvT_size m c)]; rfl
theorem vp_T {x : Int} (a b : UInt8) (h : x ≠ 0) : vp x a b = str (pvT x.natAbs (if x > 0 then a else b)) := by
  rcases Int.lt_or_gt_of_ne h with g | g
  · rw [vp_neg a b g, if_neg (by omega)]; unfold decS pvT; rw [← str_app, show (-x).toNat = x.natAbs from by omega]; rfl
  · rw [vp_pos a b g, if_pos g]; unfold decS pvT; rw [← str_app, show x.toNat = x.natAbs from by omega]; rfl
theorem pvS_y {V : List UInt8 → Int} {y : Int} (h : y ≠ 0) (hV : V (decN y.natAbs) = (y.natAbs : Int)) (v : Pt) : pvS V v (str (pvT y.natAbs (if y > 0 then 78 else 83))) = (v.1, y) := by
  unfold pvS
  rw [pvT_last, pvT_head, hV]
  by_cases g : y > 0
  · rw [if_pos g, if_pos (by rfl)]; congr 1; omega
  · rw [if_neg g, if_neg (by decide), if_pos (by rfl)]; congr 1; omega
theorem pvS_x {V : List UInt8 → Int} {x : Int} (h : x ≠ 0) (hV : V (decN x.natAbs) = (x.natAbs : Int)) (v : Pt) : pvS V v (str (pvT x.natAbs (if x > 0 then 69 else 87))) = (x, v.2) := by
  unfold pvS
  rw [pvT_last, pvT_head, hV]
  by_cases g : x > 0
  · rw [if_pos g, if_neg (by decide), if_neg (by decide), if_pos (by rfl)]; congr 1; omega
  · rw [if_neg g, if_neg (by decide), if_neg (by decide), if_neg (by decide), if_pos (by rfl)]; congr 1; omega
theorem ifne {p : Prop} [Decidable p] {a b : UInt8} (ha : a ≠ 32) (hb : b ≠ 32) : (if p then a else b) ≠ 32 := by split <;> assumption
/-- The parts of a text that is not 0. -/
theorem pv_parts {K : List UInt8 → Bool} {V : List UInt8 → Int} (hKV : ∀ m : Nat, 1 ≤ m → m ≤ 200 → K (decN m) = true ∧ V (decN m) = (m : Int)) {x y : Int} (h : vV x y = true) (hne : ¬ (x = 0 ∧ y = 0)) :
    (spL (vtext x y) 32).all (pvP K) = true ∧ pvF V (spL (vtext x y) 32) = (x, y) := by
  obtain ⟨⟨x0, x1⟩, y0, y1⟩ := vV_iff.1 h
  by_cases hy : y = 0
  · have hx : x ≠ 0 := fun e => hne ⟨e, hy⟩
    obtain ⟨k1, k2⟩ := hKV x.natAbs (by omega) (by omega)
    have e : vtext x y = str (pvT x.natAbs (if x > 0 then 69 else 87)) := by unfold vtext; rw [if_pos hy, if_neg hx, vp_T _ _ hx]
    have e2 : spL (vtext x y) 32 = [str (pvT x.natAbs (if x > 0 then 69 else 87))] := by rw [e]; exact spL_one (pvT_no (ifne (by decide) (by decide)))
    rw [e2]
    refine ⟨by simp [pvT_ok k1], ?_⟩
    show pvS V (0, 0) _ = _
    rw [pvS_x hx k2, hy]
  · obtain ⟨l1, l2⟩ := hKV y.natAbs (by omega) (by omega)
    by_cases hx : x = 0
    · have e : vtext x y = str (pvT y.natAbs (if y > 0 then 78 else 83)) := by unfold vtext; rw [if_neg hy, if_pos hx, vp_T _ _ hy]
      have e2 : spL (vtext x y) 32 = [str (pvT y.natAbs (if y > 0 then 78 else 83))] := by rw [e]; exact spL_one (pvT_no (ifne (by decide) (by decide)))
      rw [e2]
      refine ⟨by simp [pvT_ok l1], ?_⟩
      show pvS V (0, 0) _ = _
      rw [pvS_y hy l2, hx]
    · obtain ⟨k1, k2⟩ := hKV x.natAbs (by omega) (by omega)
      have e : vtext x y = str (pvT y.natAbs (if y > 0 then 78 else 83) ++ 32 :: pvT x.natAbs (if x > 0 then 69 else 87)) := by
        unfold vtext; rw [if_neg hy, if_neg hx, vp_T _ _ hy, vp_T _ _ hx, show (⟨#[32]⟩ : ByteArray) = str [32] from rfl, str_app, str_app]; simp
      have e2 : spL (vtext x y) 32 = [str (pvT y.natAbs (if y > 0 then 78 else 83)), str (pvT x.natAbs (if x > 0 then 69 else 87))] := by
        rw [e]; exact spL_two (pvT_no (ifne (by decide) (by decide))) (pvT_no (ifne (by decide) (by decide)))
      rw [e2]
      refine ⟨by simp [pvT_ok k1, pvT_ok l1], ?_⟩
      show pvS V (pvS V (0, 0) _) _ = _
      rw [pvS_y hy l2, pvS_x hx k2]
theorem kv_n : ∀ m : Nat, 1 ≤ m → m ≤ 200 → nOk (decN m) = true ∧ nV (decN m) = (m : Int) := fun _ _ h => ⟨nOk_dec (by omega), nV_dec (by omega)⟩
theorem kv_r : ∀ m : Nat, 1 ≤ m → m ≤ 200 → rdK (decN m) = true ∧ rdV (decN m) = (m : Int) := fun m _ h => by
  have h1 := rd_txt (n := (m : Int)) (by omega) (by omega)
  have e : txtL (m : Int) = decN m := by unfold txtL; rw [if_neg (by omega)]; simp
  rw [e] at h1; exact h1
theorem vtext_zero : vtext 0 0 = txt0 := by unfold vtext; rw [if_pos rfl, if_pos rfl]; rfl
theorem vp_short {x : Int} (a b : UInt8) (h0 : -200 ≤ x) (h1 : x ≤ 200) : (vp x a b).size ≤ 4 := by
  by_cases h : x = 0
  · rw [h, vp_zero]; decide
  · have := decN_len_lt 2 x.natAbs (by omega)
    rw [vp_T a b h, str_size]; unfold pvT; simp; omega
theorem vtext_short {x y : Int} (h : vV x y = true) : (vtext x y).size ≤ 10 := by
  obtain ⟨⟨x0, x1⟩, y0, y1⟩ := vV_iff.1 h
  have h1 := vp_short 69 87 x0 x1
  have h2 := vp_short 78 83 y0 y1
  unfold vtext
  split
  · split
    · decide
    · omega
  · split
    · omega
    · rw [ByteArray.size_append, ByteArray.size_append, show (ByteArray.mk #[32]).size = 1 from rfl]; omega
/-- The reference: a text longer than 10 is none. -/
theorem pvG_short {K : List UInt8 → Bool} {V : List UInt8 → Int} {s : ByteArray} (h : 10 < s.size) : pvG K V s = false := by
  unfold pvG
  by_cases e : vV (pvF V (spL s 32)).1 (pvF V (spL s 32)).2 = true
  · have h1 := vtext_short e
    rw [decide_eq_false (fun k => by rw [k] at h1; omega)]; simp
  · simp [e]
theorem pvG_all {K : List UInt8 → Bool} {V : List UInt8 → Int} (hKV : ∀ m : Nat, 1 ≤ m → m ≤ 200 → K (decN m) = true ∧ V (decN m) = (m : Int)) {s : ByteArray} (h0 : s ≠ txt0) :
    (∃ x y, vV x y = true ∧ vtext x y = s) ∧ pvG K V s = true ∨ pvG K V s = false ∧ ¬ ∃ x y, vV x y = true ∧ vtext x y = s := by
  by_cases h : ∃ x y, vV x y = true ∧ vtext x y = s
  · refine .inl ⟨h, ?_⟩
    obtain ⟨x, y, hv, rfl⟩ := h
    obtain ⟨e1, e2⟩ := pv_parts hKV hv (fun e => h0 (by rw [e.1, e.2, vtext_zero]))
    unfold pvG; rw [e1, e2]; simp [hv]
  · refine .inr ⟨?_, h⟩
    rcases k : pvG K V s with _ | _
    · rfl
    · unfold pvG at k
      simp only [Bool.and_eq_true, decide_eq_true_eq] at k
      exact absurd ⟨_, _, k.2.1, k.2.2⟩ h
theorem pvG_eq {s : ByteArray} (h0 : s ≠ txt0) : pvG rdK rdV s = pvG nOk nV s := by
  rcases pvG_all kv_n h0 with ⟨a, b⟩ | ⟨a, b⟩ <;> rcases pvG_all kv_r h0 with ⟨c, d⟩ | ⟨c, d⟩
  · rw [b, d]
  · exact absurd a d
  · exact absurd c b
  · rw [a, c]
theorem pvF_eq {s : ByteArray} (h0 : s ≠ txt0) (h : pvG nOk nV s = true) : pvF rdV (spL s 32) = pvF nV (spL s 32) := by
  rcases pvG_all kv_n h0 with ⟨⟨x, y, hv, rfl⟩, b⟩ | ⟨a, b⟩
  · have hne : ¬ (x = 0 ∧ y = 0) := fun e => h0 (by rw [e.1, e.2, vtext_zero])
    rw [(pv_parts kv_n hv hne).2, (pv_parts kv_r hv hne).2]
  · rw [a] at h; cases h
/-- The first i parts. -/
def pvR (V : List UInt8 → Int) (L : List ByteArray) (i : Nat) : Pt := pvF V (L.take i)
theorem pvR_succ {V : List UInt8 → Int} {L : List ByteArray} {i : Nat} (h : i < L.length) : pvR V L (i + 1) = pvS V (pvR V L i) L[i] := by
  unfold pvR pvF; rw [List.take_succ_eq_append_getElem h, List.foldl_append]; rfl
theorem pvR_all {V : List UInt8 → Int} {L : List ByteArray} : pvR V L L.length = pvF V L := by unfold pvR; rw [List.take_length]
theorem pvS_n {V : List UInt8 → Int} {v : Pt} {p : ByteArray} (h : pvC p = 78) : pvS V v p = (v.1, V (pvH p)) := by unfold pvS; rw [if_pos h]
theorem pvS_s {V : List UInt8 → Int} {v : Pt} {p : ByteArray} (h : pvC p = 83) : pvS V v p = (v.1, -V (pvH p)) := by unfold pvS; rw [if_neg (by rw [h]; decide), if_pos h]
theorem pvS_e {V : List UInt8 → Int} {v : Pt} {p : ByteArray} (h : pvC p = 69) : pvS V v p = (V (pvH p), v.2) := by unfold pvS; rw [if_neg (by rw [h]; decide), if_neg (by rw [h]; decide), if_pos h]
theorem pvS_w {V : List UInt8 → Int} {v : Pt} {p : ByteArray} (h : pvC p = 87) : pvS V v p = (-V (pvH p), v.2) := by unfold pvS; rw [if_neg (by rw [h]; decide), if_neg (by rw [h]; decide), if_neg (by rw [h]; decide), if_pos h]
theorem pvS_o {V : List UInt8 → Int} {v : Pt} {p : ByteArray} (h1 : pvC p ≠ 78) (h2 : pvC p ≠ 83) (h3 : pvC p ≠ 69) (h4 : pvC p ≠ 87) : pvS V v p = v := by unfold pvS; rw [if_neg h1, if_neg h2, if_neg h3, if_neg h4]
theorem pv_bad {K : List UInt8 → Bool} {V : List UInt8 → Int} {s : ByteArray} {i : Nat} (h : i < (spL s 32).length) (hp : pvP K (spL s 32)[i] = false) : pvG K V s = false := by
  have e : (spL s 32).all (pvP K) = false := by
    rw [List.all_eq_false]
    exact ⟨_, List.getElem_mem h, by rw [hp]; decide⟩
  unfold pvG; rw [e]; rfl
theorem pv_all {K : List UInt8 → Bool} {L : List ByteArray} (h : ∀ i (hi : i < L.length), pvP K L[i] = true) : L.all (pvP K) = true := by
  rw [List.all_eq_true]
  intro p hp
  obtain ⟨i, hi, rfl⟩ := List.getElem_of_mem hp
  exact h i hi
theorem pvK_zero : pvK txt0 = true ∧ pvV txt0 = (0, 0) := ⟨by unfold pvK; simp, by unfold pvV; rw [if_pos rfl]⟩
theorem pvK_ne {s : ByteArray} (h : s ≠ txt0) : pvK s = pvG nOk nV s := by unfold pvK; rw [decide_eq_false h]; rfl
theorem pvV_yes {s : ByteArray} (h : s ≠ txt0) (k : pvG nOk nV s = true) : pvV s = pvF nV (spL s 32) := by unfold pvV; rw [if_neg h, if_pos k]
theorem pvV_no {s : ByteArray} (h : s ≠ txt0) (k : pvG nOk nV s = false) : pvV s = (0, 0) := by unfold pvV; rw [if_neg h, k]; rfl
/-- Every text of a valid velocity is read. -/
theorem pv_text {x y : Int} (h : vV x y = true) : pvK (vtext x y) = true ∧ pvV (vtext x y) = (x, y) := by
  by_cases e : x = 0 ∧ y = 0
  · rw [e.1, e.2, vtext_zero]; exact pvK_zero
  · obtain ⟨e1, e2⟩ := pv_parts kv_n h e
    by_cases h0 : vtext x y = txt0
    · exfalso
      rw [h0] at e1
      exact absurd e1 (by decide +kernel)
    · have hg : pvG nOk nV (vtext x y) = true := by unfold pvG; rw [e1, e2]; simp [h]
      exact ⟨by rw [pvK_ne h0, hg], by rw [pvV_yes h0 hg, e2]⟩
theorem pv_no {s : ByteArray} (h : s ≠ txt0) (k : pvG nOk nV s = false) : pvK s = false ∧ (pvV s).1 = 0 ∧ (pvV s).2 = 0 := ⟨by rw [pvK_ne h, k], by rw [pvV_no h k], by rw [pvV_no h k]⟩
theorem pv_yes {s : ByteArray} {x y : Int} (h : s ≠ txt0) (k : pvG nOk nV s = true) (e : pvF nV (spL s 32) = (x, y)) : pvK s = true ∧ (pvV s).1 = x ∧ (pvV s).2 = y := ⟨by rw [pvK_ne h, k], by rw [pvV_yes h k, e], by rw [pvV_yes h k, e]⟩
theorem pv_no_r {s : ByteArray} (h : s ≠ txt0) (k : pvG rdK rdV s = false) : pvK s = false ∧ (pvV s).1 = 0 ∧ (pvV s).2 = 0 := pv_no h (by rw [← pvG_eq h, k])
theorem pv_yes_r {s : ByteArray} {x y : Int} (h : s ≠ txt0) (k : pvG rdK rdV s = true) (e : pvF rdV (spL s 32) = (x, y)) : pvK s = true ∧ (pvV s).1 = x ∧ (pvV s).2 = y :=
  have k2 : pvG nOk nV s = true := by rw [← pvG_eq h, k]
  pv_yes h k2 (by rw [← pvF_eq h k2, e])
theorem pvP_short {K : List UInt8 → Bool} {p : ByteArray} (h : p.size < 2) : pvP K p = false := by unfold pvP; rw [decide_eq_false (by omega)]; rfl
theorem pvP_bad {K : List UInt8 → Bool} {p : ByteArray} (h : K (pvH p) = false) : pvP K p = false := by unfold pvP; rw [h, Bool.and_false]
theorem pvP_good {K : List UInt8 → Bool} {p : ByteArray} (h : 2 ≤ p.size) (k : K (pvH p) = true) : pvP K p = true := by unfold pvP; rw [k, decide_eq_true h]; rfl
theorem pv_badL {K : List UInt8 → Bool} {V : List UInt8 → Int} {s p : ByteArray} {L : List ByteArray} {i : Nat} (hL : spL s 32 = L) (h : i < L.length) (he : L[i] = p) (hp : pvP K p = false) : pvG K V s = false := by
  subst hL; exact pv_bad h (by rw [he]; exact hp)
def pvA (K : List UInt8 → Bool) (L : List ByteArray) (i : Nat) : Prop := ∀ j (hj : j < L.length), j < i → pvP K L[j] = true
theorem pvA_zero {K : List UInt8 → Bool} {L : List ByteArray} : pvA K L 0 := fun _ _ h => absurd h (by omega)
theorem pvA_succ {K : List UInt8 → Bool} {L : List ByteArray} {i : Nat} {p : ByteArray} (h : pvA K L i) (hi : i < L.length) (he : L[i] = p) (hp : pvP K p = true) : pvA K L (i + 1) := by
  intro j hj hji
  by_cases e : j = i
  · subst e; rw [he]; exact hp
  · exact h j hj (by omega)
theorem pv_end {K : List UInt8 → Bool} {V : List UInt8 → Int} {s : ByteArray} {L : List ByteArray} {x y : Int} (hL : spL s 32 = L) (h : pvA K L L.length) (hr : pvR V L L.length = (x, y)) : pvG K V s = (vV x y && decide (vtext x y = s)) ∧ pvF V (spL s 32) = (x, y) := by
  subst hL
  rw [pvR_all] at hr
  refine ⟨?_, hr⟩
  unfold pvG
  rw [pv_all (fun i hi => h i hi hi), hr]; rfl
section
variable {V : List UInt8 → Int} {L : List ByteArray} {i : Nat} {x y : Int} {p : ByteArray} (h : i < L.length) (hr : pvR V L i = (x, y)) (he : L[i] = p)
include h hr he
theorem pvR_n (hc : pvC p = 78) : pvR V L (i + 1) = (x, V (pvH p)) := by rw [pvR_succ h, he, hr, pvS_n hc]
theorem pvR_s (hc : pvC p = 83) : pvR V L (i + 1) = (x, -V (pvH p)) := by rw [pvR_succ h, he, hr, pvS_s hc]
theorem pvR_e (hc : pvC p = 69) : pvR V L (i + 1) = (V (pvH p), y) := by rw [pvR_succ h, he, hr, pvS_e hc]
theorem pvR_w (hc : pvC p = 87) : pvR V L (i + 1) = (-V (pvH p), y) := by rw [pvR_succ h, he, hr, pvS_w hc]
theorem pvR_o (h1 : pvC p ≠ 78) (h2 : pvC p ≠ 83) (h3 : pvC p ≠ 69) (h4 : pvC p ≠ 87) : pvR V L (i + 1) = (x, y) := by rw [pvR_succ h, he, hr, pvS_o h1 h2 h3 h4]
end
theorem pvC_in {p : ByteArray} (h : 2 ≤ p.size) : pvC p = ((p[p.size - 1]'(by omega)).toNat : Int) := byteAt_in _
theorem toList_bne {a b : ByteArray} (h : a ≠ b) : (a.toList == b.toList) = false := by
  rw [ByteArray.toList_eq, ByteArray.toList_eq]
  rw [Bool.eq_false_iff]
  intro e
  exact h (by rw [← of_list a, ← of_list b, eq_of_beq e])
theorem vV_zero : vV 0 0 = true := by decide
theorem spL_pos (s : ByteArray) (b : Int) : 0 < (spL s b).length := by unfold spL; simp
theorem ext_size (s : ByteArray) (a b : Nat) : (s.extract a b).size ≤ s.size := by rw [ByteArray.size_extract]; omega
theorem spS_size (s : ByteArray) (b : Int) : ∀ i, ∀ p ∈ (spS s b i).1, p.size ≤ s.size
  | 0, p, h => by simp [spS] at h
  | i + 1, p, h => by
    rw [spS] at h
    split at h
    · rcases List.mem_append.1 h with e | e
      · exact spS_size s b i p e
      · simp at e; rw [e]; exact ext_size _ _ _
    · exact spS_size s b i p h
theorem spL_size (s : ByteArray) (b : Int) (p : ByteArray) (h : p ∈ spL s b) : p.size ≤ s.size := by
  unfold spL at h
  rcases List.mem_append.1 h with e | e
  · exact spS_size s b _ p e
  · simp at e; rw [e]; exact ext_size _ _ _
theorem spL_at {s p : ByteArray} {b : Int} {L : List ByteArray} {i : Nat} (hL : spL s b = L) (h : i < L.length) (he : L[i] = p) : p.size ≤ s.size := by
  subst hL; exact spL_size s b p (by rw [← he]; exact List.getElem_mem h)
theorem strs_get {L : List ByteArray} {i : Nat} {p : ByteArray} (h : i < L.length) (he : L[i] = p) : (strs L)[i]? = some (.string p) := by
  unfold strs; rw [List.getElem?_map, List.getElem?_eq_getElem h, he]; rfl
end Go.Proofs.Ytpcabjjmphcpeaa
