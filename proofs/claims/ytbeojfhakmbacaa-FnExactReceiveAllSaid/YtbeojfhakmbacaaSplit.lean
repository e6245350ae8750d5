/- A statement whose order Go leaves open: the orders are parted by which of two operations comes first. -/
import Derived.Test.YtbeojfhakmbacaaFloat
import Derived.Test.YtbeojfhakmbacaaSeq
namespace Go.Proofs.Ytbeojfhakmbacaa
open Go

section
variable {P : Program}

/-- L is an order of all operations that are not listed yet. -/
def ExtF (ops : Array Oper) : List Nat → Array Bool → Prop
  | [], listed => Region.ready .any ops listed = []
  | i :: L, listed => i ∈ Region.ready .any ops listed ∧ ExtF ops L (listed.setIfInBounds i true)

theorem ext_lin (ops : Array Oper) : ∀ (fuel t : Nat) (listed : Array Bool), listed.size = ops.size → listed.toList.count false ≤ fuel → ExtF ops (Region.linearise.go .any ops fuel t listed []) listed := by
  intro fuel
  induction fuel with
  | zero =>
    intro t listed hs hc
    show Region.ready .any ops listed = []
    rcases hr : Region.ready .any ops listed with _ | ⟨i, r⟩
    · rfl
    · obtain ⟨hu, o, ho, _⟩ := ready_spec (ops := ops) (listed := listed) (i := i) (by rw [hr]; simp)
      have hil : i < listed.size := by rw [hs]; exact (Array.getElem?_eq_some_iff.1 ho).1
      have hv : listed[i] = false := by simpa [Array.getD, hil] using hu
      have hm : false ∈ listed.toList := by rw [← hv]; exact Array.mem_toList_iff.2 (Array.getElem_mem hil)
      have := List.count_pos_iff.2 hm
      omega
  | succ fuel ih =>
    intro t listed hs hc
    simp only [Region.linearise.go]
    change ExtF ops (match (Region.ready .any ops listed)[t % (Region.ready .any ops listed).length]? with
      | some i => Region.linearise.go .any ops fuel (t / (Region.ready .any ops listed).length) (listed.setIfInBounds i true) [i]
      | none => [].reverse) listed
    cases hi : (Region.ready .any ops listed)[t % (Region.ready .any ops listed).length]? with
    | none =>
      show Region.ready .any ops listed = []
      cases hr : Region.ready .any ops listed with
      | nil => rfl
      | cons x xs =>
        rw [hr] at hi
        have hlt : t % (x :: xs).length < (x :: xs).length := Nat.mod_lt _ (by simp)
        simp at hi
        simp at hlt
        omega
    | some i =>
      simp only []
      have hm := List.mem_of_getElem? hi
      obtain ⟨hu, o, ho, _⟩ := ready_spec hm
      rw [linearise_go_acc, List.reverse_singleton, List.singleton_append]
      exact ⟨hm, ih _ _ (by simpa using hs) (count_set hu hc)⟩

/-- All orders end well. -/
def RegAll (P : Program) (ops : Array Oper) (Q : Exit → Act → World → Prop) (a : Act) (w : World) : Prop := ∀ L, ExtF ops L (Array.replicate ops.size false) → wpOps P ops Q L a w

theorem wp_region_all {id : Nat} {l : List Oper} {a : Act} {w : World} {Q : Exit → Act → World → Prop} (hm : P.follows .mixedOrders = true) (h : RegAll P l.toArray Q a w.drew) : (Code.region id l.toArray true).wp P Q a w :=
  wp_region_draw fun t => by
    simp only [Region.schedule, hm, Bool.true_or, if_true]
    exact h _ (ext_lin _ _ _ _ (by simp) (Nat.le_trans List.count_le_length (by simp)))

theorem all_of_any {ops : Array Oper} {Q : Exit → Act → World → Prop} : ∀ (n : Nat) (L : List Nat) (listed : Array Bool) (a : Act) (w : World), wpAny P .any ops Q n listed a w → ExtF ops L listed → wpOps P ops Q L a w := by
  intro n
  induction n with
  | zero =>
    intro L listed a w h hx
    cases L with
    | nil => simpa [wpOps] using h.2
    | cons i L => have := hx.1; rw [h.1] at this; cases this
  | succ n ih =>
    intro L listed a w h hx
    cases L with
    | nil => simpa [wpOps] using h.1 hx
    | cons i L =>
      rw [wpOps_cons]
      exact wpOp_mono (fun a' w' h' => ih L _ a' w' h' hx.2) (h.2 i hx.1)

/-- Number j waits for number i. -/
def addE (i j : Nat) (ops : Array Oper) : Array Oper := ops.mapIdx fun k o => if k = j then edgeOn i o else o
theorem addE_size (i j : Nat) (ops : Array Oper) : (addE i j ops).size = ops.size := by simp [addE]
theorem addE_at (i j : Nat) (ops : Array Oper) (k : Nat) : (addE i j ops)[k]? = (ops[k]?).map fun o => if k = j then edgeOn i o else o := by simp [addE]
theorem addE_core (i j : Nat) (ops : Array Oper) : Core ops (addE i j ops) := fun k => by
  rw [addE_at, Option.map_map]
  cases ops[k]? with
  | none => rfl
  | some o => simp only [Option.map_some, Function.comp]; split <;> rfl

theorem core_wpOps {ops ops' : Array Oper} (h : Core ops ops') {Q : Exit → Act → World → Prop} : ∀ (L : List Nat) (a : Act) (w : World), wpOps P ops' Q L a w → wpOps P ops Q L a w
  | [], a, w, hh => by simpa [wpOps] using hh
  | i :: L, a, w, hh => by
    rw [wpOps_cons] at hh ⊢
    have ih := core_wpOps h (Q := Q) L
    have hi := h i
    unfold wpOp at hh ⊢
    cases h1 : ops'[i]? <;> cases h2 : ops[i]? <;> rw [h1, h2] at hi <;> simp at hi <;> simp only [h1, h2] at hh ⊢
    · exact ih _ _ hh
    · rw [core_yield h, wanted_strip hi] at hh
      split
      · rename_i h4
        rw [if_pos h4, wp_strip hi, asks_strip hi] at hh
        exact hh.imp (Oper.wp_mono fun a w h => ih a w h) id
      · rename_i h4
        rw [if_neg h4, (strip_op hi).1] at hh
        exact ih _ _ hh

theorem ready_addE {i j : Nat} {ops : Array Oper} {listed : Array Bool} {k : Nat} : k ∈ Region.ready .any (addE i j ops) listed ↔ k ∈ Region.ready .any ops listed ∧ (k = j → listed.getD i false = true) := by
  unfold Region.ready
  simp only [List.mem_filter, List.mem_range, addE_size, addE_at]
  constructor
  · rintro ⟨h1, h2⟩
    have ho : ops[k]? = some ops[k] := Array.getElem?_eq_getElem h1
    simp only [ho, Option.map_some, Option.getD_some, Bool.and_eq_true] at h2 ⊢
    by_cases hk : k = j
    · rw [if_pos hk] at h2
      have h3 := h2.2
      simp only [edgeOn, Array.all_push, Bool.and_eq_true] at h3
      refine ⟨⟨h1, h2.1, h3.1⟩, fun _ => ?_⟩
      have h4 := h3.2
      have hb : Region.binds .any (⟨i, .data⟩ : Edge) = true := rfl
      rw [hb] at h4
      simpa using h4
    · rw [if_neg hk] at h2
      exact ⟨⟨h1, h2.1, h2.2⟩, fun e => absurd e hk⟩
  · rintro ⟨⟨h1, h2⟩, h3⟩
    have ho : ops[k]? = some ops[k] := Array.getElem?_eq_getElem h1
    simp only [ho, Option.map_some, Option.getD_some, Bool.and_eq_true] at h2 ⊢
    refine ⟨h1, h2.1, ?_⟩
    by_cases hk : k = j
    · rw [if_pos hk]
      simp only [edgeOn, Array.all_push, Bool.and_eq_true]
      exact ⟨h2.2, by rw [h3 hk]; simp⟩
    · rw [if_neg hk]; exact h2.2

/-- i does not come behind j. -/
def Fst (i j : Nat) : List Nat → Prop
  | [] => True
  | k :: R => k = i ∨ (k ≠ j ∧ Fst i j R)
theorem fst_or (i j : Nat) : ∀ L, Fst i j L ∨ Fst j i L
  | [] => .inl trivial
  | k :: R => by
    by_cases hi : k = i
    · exact .inl (.inl hi)
    · by_cases hj : k = j
      · exact .inr (.inl hj)
      · exact (fst_or i j R).imp (fun h => .inr ⟨hj, h⟩) (fun h => .inr ⟨hi, h⟩)
theorem ext_add {i j : Nat} (hij : i ≠ j) {ops : Array Oper} : ∀ (L : List Nat) (listed : Array Bool), listed.size = ops.size → ExtF ops L listed → listed.getD i false = true ∨ Fst i j L → ExtF (addE i j ops) L listed
  | [], listed, _, hx, _ => by
    show Region.ready .any (addE i j ops) listed = []
    rcases hr : Region.ready .any (addE i j ops) listed with _ | ⟨k, r⟩
    · rfl
    · have h1 : k ∈ Region.ready .any (addE i j ops) listed := by rw [hr]; simp
      have h2 := (ready_addE.1 h1).1
      have h3 : Region.ready .any ops listed = [] := hx
      rw [h3] at h2; cases h2
  | k :: L, listed, hs, hx, hf => by
    have hkl : k < listed.size := by
      obtain ⟨_, o, ho, _⟩ := ready_spec hx.1
      rw [hs]; exact (Array.getElem?_eq_some_iff.1 ho).1
    refine ⟨ready_addE.2 ⟨hx.1, fun e => ?_⟩, ext_add hij L _ (by simpa using hs) hx.2 ?_⟩
    · rcases hf with h | h | h
      · exact h
      · exact absurd (h.symm.trans e) hij
      · exact absurd e h.1
    · rw [getD_set hkl]
      rcases hf with h | h | h
      · left; split
        · rfl
        · exact h
      · left; rw [if_pos h.symm]
      · exact .inr h.2

/-- **The orders in which i comes first, and those in which j does.** -/
theorem all_split {ops : Array Oper} {Q : Exit → Act → World → Prop} {a : Act} {w : World} (i j : Nat) (hij : i ≠ j) (h1 : RegAll P (addE i j ops) Q a w) (h2 : RegAll P (addE j i ops) Q a w) : RegAll P ops Q a w := fun L hL => by
  rcases fst_or i j L with h | h
  · exact core_wpOps (addE_core i j ops) L a w (h1 L (by rw [addE_size]; exact ext_add hij L _ (by simp) hL (.inr h)))
  · exact core_wpOps (addE_core j i ops) L a w (h2 L (by rw [addE_size]; exact ext_add (Ne.symm hij) L _ (by simp) hL (.inr h)))

/-- One of these, whose deeds follow one another: walked in the order ord. -/
theorem all_seq {a : Act} {w : World} {Q : Exit → Act → World → Prop} (eff : Oper → Bool) (ord : List Nat) (S : World → Prop) {l : List Oper} (hok : seqChk l.toArray eff ord = true) (hS : S w)
    (h : wpSeq P l.toArray eff (fun a' w' => Q .normal a' w') (byNum l ord) S a w) : RegAll P l.toArray Q a w := fun L hL => by
  have F := seqChk_spec hok
  have hmem : ∀ i ∈ ord, i < l.length := fun i hi => by
    obtain ⟨q, hq⟩ := List.getElem?_of_mem hi
    obtain ⟨j, oj, hj, hoj, _⟩ := F.at_ q (List.getElem?_eq_some_iff.1 hq).1
    rw [hq] at hj; cases hj
    simpa using (Array.getElem?_eq_some_iff.1 hoj).1
  refine all_of_any _ L _ a w (seq_any (a0 := a) F (R := fun a' w' => Q .normal a' w') (fun _ _ h => h) _ [] (byNum l ord) S _ a _ ?_ (fun q _ => ?_) hS (by simpa [stateAt] using h) (Nat.le_refl _)) hL
  · refine ⟨by simp, by simp, fun j oj hj hl => ?_, rfl, rfl, fun q j _ hj => ?_, by simp, by simp, by simp, fun t k hk _ => ?_⟩
    · have hlt : j < l.toArray.size := (Array.getElem?_eq_some_iff.1 hj).1
      have hlt' : j < l.length := by simpa using hlt
      simp [Array.getD, hlt'] at hl
    · have hjl := hmem j (List.mem_of_getElem? hj)
      simp [Array.getD, hjl]
    · simp [stateAt]
  · have := byNum_at (l := l) ord hmem q
    simpa using this
/-- The same, its operations given as a list beside the array. -/
theorem all_seq' {a : Act} {w : World} {Q : Exit → Act → World → Prop} (eff : Oper → Bool) (ord : List Nat) (S : World → Prop) {ops : Array Oper} (hok : seqChk ops eff ord = true) (hS : S w)
    (h : wpSeq P ops eff (fun a' w' => Q .normal a' w') (byNum ops.toList ord) S a w) : RegAll P ops Q a w := by
  have e : ops.toList.toArray = ops := by simp
  have := all_seq (P := P) (a := a) (w := w) (Q := Q) eff ord S (l := ops.toList) (by rw [e]; exact hok) hS (by rw [e]; exact h)
  rwa [e] at this
/-- Edges alone are not seen by the walk. -/
theorem core_still {ops ops' : Array Oper} (h : Core ops ops') {S : World → Prop} {o o' : Oper} (e : strip o' = strip o) {v : Value} {a : Act} (hl : Still P ops S o v a) : Still P ops' S o' v a := by
  unfold Still at *
  rw [core_yield h, wanted_strip e, exec_strip e]
  exact hl
theorem core_wpSeq {ops ops' : Array Oper} (h : Core ops ops') {eff : Oper → Bool} (he : ∀ o o', strip o' = strip o → eff o' = eff o) {R : Act → World → Prop} : ∀ (l l' : List Oper) (S : World → Prop) (a : Act) (w : World), l'.map strip = l.map strip → wpSeq P ops eff R l S a w → wpSeq P ops' eff R l' S a w
  | [], [], _, _, _, _, hh => hh
  | [], _ :: _, _, _, _, e, _ => by simp at e
  | _ :: _, [], _, _, _, e, _ => by simp at e
  | o :: l, o' :: l', S, a, w, e, hh => by
    simp only [List.map_cons, List.cons.injEq] at e
    rcases hh with ⟨h1, v, h2, h3⟩ | ⟨h1, h2, h3⟩
    · exact .inl ⟨by rw [he _ _ e.1]; exact h1, v, core_still h e.1 h2, by rw [(strip_op e.1).1]; exact core_wpSeq h he l l' _ _ _ e.2 h3⟩
    · refine .inr ⟨by rw [he _ _ e.1]; exact h1, by rw [core_yield h, wanted_strip e.1]; exact h2, ?_⟩
      have hk : ∀ (v : Value) (w' : World), (∃ S' : World → Prop, S' w' ∧ (∀ W, S' W → S W) ∧ wpSeq P ops eff R l S' (a.put o.dst v) w') → ∃ S' : World → Prop, S' w' ∧ (∀ W, S' W → S W) ∧ wpSeq P ops' eff R l' S' (a.put o'.dst v) w' := fun v w' ⟨S', a1, a2, a3⟩ =>
        ⟨S', a1, a2, by rw [(strip_op e.1).1]; exact core_wpSeq h he l l' _ _ _ e.2 a3⟩
      unfold Does at h3 ⊢
      rw [exec_strip e.1]
      generalize (execOp a.eval o).run P w = r at h3
      cases r with
      | ok n w' =>
        cases n <;> simp only at h3 ⊢
        case value u => exact hk _ _ h3
        case skip => exact hk _ _ h3
        case enter f args => exact h3.mono fun e w'' ⟨v, he, hc⟩ => ⟨v, he, hk _ _ hc⟩
      | halt x w' => exact h3.elim
theorem deed_strip (o o' : Oper) (e : strip o' = strip o) : deed o' = deed o := by
  have h := strip_op e
  unfold deed
  rw [h.2.1]
theorem byNum_core {ops ops' : Array Oper} (h : Core ops ops') : ∀ ord, (byNum ops'.toList ord).map strip = (byNum ops.toList ord).map strip
  | [] => rfl
  | i :: r => by
    have ih := byNum_core h r
    have hi := h i
    unfold byNum
    have e1 : ops'.toList[i]? = ops'[i]? := by simp
    have e2 : ops.toList[i]? = ops[i]? := by simp
    rw [e1, e2]
    cases h1 : ops'[i]? <;> cases h2 : ops[i]? <;> rw [h1, h2] at hi <;> simp at hi
    · exact ih
    · simp only [List.map_cons, ih, hi]
/-- **One part of the orders, its operations as they stand in the text.** -/
theorem all_seq_core {a : Act} {w : World} {Q : Exit → Act → World → Prop} (ord : List Nat) (S : World → Prop) {l : List Oper} {ops' : Array Oper} (hc : Core l.toArray ops') (hok : seqChk ops' deed ord = true) (hS : S w)
    (h : wpSeq P l.toArray deed (fun a' w' => Q .normal a' w') (byNum l ord) S a w) : RegAll P ops' Q a w :=
  all_seq' deed ord S hok hS (core_wpSeq hc deed_strip _ _ S a w (by have := byNum_core hc ord; simpa using this) h)
end
end Go.Proofs.Ytbeojfhakmbacaa
