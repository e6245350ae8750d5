/- A statement whose order Go leaves open, whose calls and other deeds follow one another: walked in one order that is given by numbers; what the deeds hand back may be anything. -/
import Derived.Test.YtbeojfhakmbacaaRegion
import Derived.Test.YtbeojfhakmbacaaBase
import Derived.Maps.AppendAt
namespace Go.Proofs.Ytbeojfhakmbacaa
open Go

section
variable {P : Program}

/-- What becomes of an operation: C of the value that it yields and of the world behind it. -/
def Does (P : Program) (x : Sem Next) (w : World) (C : Value → World → Prop) : Prop :=
  match x.run P w with
  | .ok (.value v) w' => C v w'
  | .ok .skip w' => C undef w'
  | .ok (.enter f args) w' => Calls P f args w' fun e w'' => ∃ v, e = .returned v ∧ C v w''
  | _ => False

theorem Does.wp {o : Oper} {a : Act} {w : World} {C : Value → World → Prop} {K : Act → World → Prop} {Q : Exit → Act → World → Prop} (h : Does P (execOp a.eval o) w C) (hK : ∀ v w', C v w' → K (a.put o.dst v) w') : o.wp P a w K Q := by
  unfold Does at h
  unfold Oper.wp
  generalize (execOp a.eval o).run P w = r at h
  cases r with
  | ok n w' =>
    cases n <;> simp only at h <;> simp only [Oper.upon]
    case value u => exact hK _ _ h
    case skip => exact hK _ _ h
    case enter f args => exact h.mono fun e w'' ⟨v, he, hc⟩ => by subst he; exact hK _ _ hc
  | halt x w' => exact h.elim

/-- In every world that meets S the operation yields v and changes nothing; or it does not run. -/
def Still (P : Program) (ops : Array Oper) (S : World → Prop) (o : Oper) (v : Value) (a : Act) : Prop :=
  (Region.wanted o (yielded ops a.tmps) = true ∧ ∀ w, S w → (execOp a.eval o).run P w = .ok (.value v) w) ∨ (Region.wanted o (yielded ops a.tmps) = false ∧ v = undef)

/-- The operations one after the other: the quiet ones by values that hold in every world that meets S, the deeds as they come. -/
def wpSeq (P : Program) (ops : Array Oper) (eff : Oper → Bool) (R : Act → World → Prop) : List Oper → (World → Prop) → Act → World → Prop
  | [], _, a, w => R a w
  | o :: rest, S, a, w => (eff o = false ∧ ∃ v, Still P ops S o v a ∧ wpSeq P ops eff R rest S (a.put o.dst v) w) ∨
      (eff o = true ∧ Region.wanted o (yielded ops a.tmps) = true ∧ Does P (execOp a.eval o) w fun v w' => ∃ S' : World → Prop, S' w' ∧ (∀ W, S' W → S W) ∧ wpSeq P ops eff R rest S' (a.put o.dst v) w')

/-- The order is one of all operations that keeps to the edges; two that share a temporary are held by an edge; behind a deed everything waits for it. -/
def seqChk (ops : Array Oper) (eff : Oper → Bool) (ord : List Nat) : Bool :=
  decide (ord.length = ops.size) && (List.range ops.size).all (fun i => ord.contains i) &&
  (List.range ord.length).all fun q => match ord[q]? with
    | none => false
    | some j => match ops[j]? with
      | none => false
      | some oj => (match oj.op with | .select .. => false | _ => true) && oj.after.toList.all (fun e => !Region.binds .any e || (ord.take q).contains e.on) &&
        (List.range q).all fun p => match ord[p]? with
          | none => false
          | some i => match ops[i]? with
            | none => false
            | some oi => decide (i ≠ j) && ((oi.apart ops oj || oj.after.toList.any (fun e => Region.binds .any e && e.on == i)) && (!eff oi || (belowOf ops ops.size j).contains i))

structure SeqFacts (ops : Array Oper) (eff : Oper → Bool) (ord : List Nat) : Prop where
  len : ord.length = ops.size
  mem : ∀ i, i < ops.size → i ∈ ord
  at_ : ∀ q : Nat, q < ord.length → ∃ j oj, ord[q]? = some j ∧ ops[j]? = some oj ∧ (∀ cs b, oj.op ≠ .select cs b) ∧ (∀ e ∈ oj.after, Region.binds .any e = true → e.on ∈ ord.take q) ∧
    ∀ p : Nat, p < q → ∃ i oi, ord[p]? = some i ∧ ops[i]? = some oi ∧ i ≠ j ∧ (oi.apart ops oj = true ∨ ∃ e ∈ oj.after, Region.binds .any e = true ∧ e.on = i) ∧ (eff oi = true → i ∈ belowOf ops ops.size j)

theorem seqChk_spec {ops : Array Oper} {eff : Oper → Bool} {ord : List Nat} (h : seqChk ops eff ord = true) : SeqFacts ops eff ord := by
  unfold seqChk at h
  simp only [Bool.and_eq_true, decide_eq_true_eq] at h
  obtain ⟨⟨h1, h2⟩, h3⟩ := h
  refine ⟨h1, fun i hi => by simpa using List.all_eq_true.1 h2 i (by simpa using hi), fun q hq => ?_⟩
  have h4 := List.all_eq_true.1 h3 q (by simpa using hq)
  cases hj : ord[q]? with
  | none => rw [hj] at h4; simp at h4
  | some j =>
    rw [hj] at h4
    cases ho : ops[j]? with
    | none => simp only [ho] at h4; cases h4
    | some oj =>
      simp only [ho, Bool.and_eq_true] at h4
      obtain ⟨⟨h5, h6⟩, h7⟩ := h4
      refine ⟨j, oj, rfl, ho, fun cs b e => by rw [e] at h5; simp at h5, fun e he hb => ?_, fun p hp => ?_⟩
      · have := List.all_eq_true.1 h6 e (by simpa using he)
        simpa [hb] using this
      · have h8 := List.all_eq_true.1 h7 p (by simpa using hp)
        cases hi : ord[p]? with
        | none => rw [hi] at h8; simp at h8
        | some i =>
          rw [hi] at h8
          cases hoi : ops[i]? with
          | none => simp only [hoi] at h8; cases h8
          | some oi =>
            simp only [hoi, Bool.and_eq_true, Bool.or_eq_true, decide_eq_true_eq] at h8
            obtain ⟨hne, h8⟩ := h8
            refine ⟨i, oi, rfl, hoi, hne, h8.1.imp id fun h9 => ?_, fun he => ?_⟩
            · obtain ⟨e, he, hb⟩ := List.any_eq_true.1 h9
              simp only [Bool.and_eq_true, beq_iff_eq] at hb
              exact ⟨e, by simpa using he, hb.1, hb.2⟩
            · rcases h8.2 with h9 | h9
              · rw [he] at h9; cases h9
              · simpa using h9

/-- What is known in the midst: the first ps.length operations of the order have been reckoned; of them the deeds and some of the quiet ones are listed. -/
structure Mid (P : Program) (ops : Array Oper) (eff : Oper → Bool) (ord : List Nat) (a0 : Act) (ps : List (Oper × Value)) (S : World → Prop) (listed : Array Bool) (a : Act) : Prop where
  size : listed.size = ops.size
  plen : ps.length ≤ ord.length
  down : ∀ (j : Nat) oj, ops[j]? = some oj → listed.getD j true = true → ∀ e ∈ oj.after, Region.binds .any e = true → listed.getD e.on false = true
  defers : a.defers = a0.defers
  tsize : a.tmps.size = a0.tmps.size
  ahead : ∀ (q j : Nat), ps.length ≤ q → ord[q]? = some j → listed.getD j true = false
  pss : ∀ (p : Nat) (o : Oper) (v : Value), ps[p]? = some (o, v) → ∃ j, ord[p]? = some j ∧ ops[j]? = some o
  done : ∀ (p : Nat) (o : Oper) (v : Value) (j : Nat), ps[p]? = some (o, v) → ord[p]? = some j → eff o = true → listed.getD j true = true
  quiet : ∀ (p : Nat) (o : Oper) (v : Value), ps[p]? = some (o, v) → eff o = false → Still P ops S o v (stateAt a0 ps p)
  slots : ∀ (t k : Nat), k ≤ ps.length → (∀ (p : Nat) (o : Oper) (v : Value) (j : Nat), ps[p]? = some (o, v) → ord[p]? = some j → o.dst = some t → (listed.getD j true = true ↔ p < k)) → a.tmps[t]? = (stateAt a0 ps k).tmps[t]?

theorem stateAt_facts (a0 : Act) (ps : List (Oper × Value)) : ∀ k, (stateAt a0 ps k).tmps.size = a0.tmps.size ∧ (stateAt a0 ps k).defers = a0.defers := by
  intro k
  induction k with
  | zero => simp [stateAt]
  | succ k ih =>
    cases hk : ps[k]? with
    | none =>
      have : ps.length ≤ k := by simpa using hk
      have e : stateAt a0 ps (k + 1) = stateAt a0 ps k := by simp [stateAt, List.take_of_length_le this, List.take_of_length_le (Nat.le_succ_of_le this)]
      rw [e]; exact ih
    | some p =>
      obtain ⟨o, v⟩ := p
      rw [stateAt_succ hk, put_size, put_defers]; exact ih
theorem stateAt_snoc (a0 : Act) (ps : List (Oper × Value)) (x : Oper × Value) {k : Nat} (hk : k ≤ ps.length) : stateAt a0 (ps ++ [x]) k = stateAt a0 ps k := by
  simp [stateAt, List.take_append_of_le_length hk]
theorem stateAt_last (a0 : Act) (ps : List (Oper × Value)) (o : Oper) (v : Value) : stateAt a0 (ps ++ [(o, v)]) (ps.length + 1) = (stateAt a0 ps ps.length).put o.dst v := by
  rw [stateAt_succ (o := o) (v := v) (by simp), stateAt_snoc _ _ _ (Nat.le_refl _)]
theorem slot_kept {a0 : Act} {ps : List (Oper × Value)} {t : Nat} : ∀ (d i : Nat), (∀ (p : Nat) (o : Oper) (v : Value), i ≤ p → p < i + d → ps[p]? = some (o, v) → o.dst ≠ some t) → (stateAt a0 ps (i + d)).tmps[t]? = (stateAt a0 ps i).tmps[t]?
  | 0, i, _ => rfl
  | d + 1, i, h => by
    have h1 := slot_kept (a0 := a0) d i (fun p o v h2 h3 => h p o v h2 (by omega))
    rw [← h1]
    cases hk : ps[i + d]? with
    | none =>
      have : ps.length ≤ i + d := by simpa using hk
      have e : stateAt a0 ps (i + (d + 1)) = stateAt a0 ps (i + d) := by
        rw [show i + (d + 1) = i + d + 1 from by omega]
        simp [stateAt, List.take_of_length_le this, List.take_of_length_le (Nat.le_succ_of_le this)]
      rw [e]
    | some x =>
      obtain ⟨o, v⟩ := x
      rw [show i + (d + 1) = i + d + 1 from by omega, stateAt_succ hk, put_tmps_ne (h _ o v (by omega) (by omega) hk)]

section
variable {ops : Array Oper} {eff : Oper → Bool} {ord : List Nat} {a0 : Act} {ps : List (Oper × Value)} {S : World → Prop} {listed : Array Bool} {a : Act}

theorem ord_inj (F : SeqFacts ops eff ord) {p q i : Nat} (hp : ord[p]? = some i) (hq : ord[q]? = some i) : p = q := by
  rcases Nat.lt_trichotomy p q with h | h | h
  · obtain ⟨j, oj, hj, _, _, _, hpair⟩ := F.at_ q (List.getElem?_eq_some_iff.1 hq).1
    obtain ⟨i', oi, hi, _, hne, _⟩ := hpair p h
    rw [hp] at hi; cases hi
    rw [hq] at hj; cases hj
    exact absurd rfl hne
  · exact h
  · obtain ⟨j, oj, hj, _, _, _, hpair⟩ := F.at_ p (List.getElem?_eq_some_iff.1 hp).1
    obtain ⟨i', oi, hi, _, hne, _⟩ := hpair q h
    rw [hq] at hi; cases hi
    rw [hp] at hj; cases hj
    exact absurd rfl hne

theorem mem_take_pos {q i : Nat} (h : i ∈ ord.take q) : ∃ p, p < q ∧ ord[p]? = some i := by
  obtain ⟨p, hp⟩ := List.getElem?_of_mem h
  rw [List.getElem?_take] at hp
  split at hp
  · exact ⟨p, by assumption, hp⟩
  · cases hp

/-- The operand slots of number j at position q hold in a what they hold in the order's own state, if all that it waits for is listed and it is not. -/
theorem mid_same (F : SeqFacts ops eff ord) (M : Mid P ops eff ord a0 ps S listed a) {q j : Nat} {o : Oper} (hq : q ≤ ps.length) (hj : ord[q]? = some j) (ho : ops[j]? = some o) (hu : listed.getD j true = false)
    (he : ∀ e ∈ o.after, Region.binds .any e = true → listed.getD e.on false = true) :
    execOp a.eval o = execOp (stateAt a0 ps q).eval o ∧ Region.wanted o (yielded ops a.tmps) = Region.wanted o (yielded ops (stateAt a0 ps q).tmps) := by
  have hql : q < ord.length := (List.getElem?_eq_some_iff.1 hj).1
  obtain ⟨j', o', hj', ho', hs, _, hpair⟩ := F.at_ q hql
  rw [hj] at hj'; cases hj'
  rw [ho] at ho'; cases ho'
  refine same_exec hs fun t htk => M.slots t q hq fun p op v i hp hi hdp => ?_
  obtain ⟨i', hi', hoi'⟩ := M.pss p op v hp
  rw [hi] at hi'; cases hi'
  constructor
  · intro hl
    rcases Nat.lt_trichotomy p q with h4 | h4 | h4
    · exact h4
    · subst h4
      rw [hi] at hj; cases hj
      rw [hu] at hl; cases hl
    · exfalso
      have hpl : p < ord.length := (List.getElem?_eq_some_iff.1 hi).1
      obtain ⟨i2, op2, hi2, hop2, _, _, hpair2⟩ := F.at_ p hpl
      rw [hi] at hi2; cases hi2
      rw [hoi'] at hop2; cases hop2
      obtain ⟨j2, o2, hj2, ho2, _, hap, _⟩ := hpair2 q h4
      rw [hj] at hj2; cases hj2
      rw [ho] at ho2; cases ho2
      rcases hap with h6 | ⟨e, hem, hb, heq⟩
      · exact (Oper.apart_spec h6).2.2 t hdp htk
      · have := M.down i op hoi' hl e hem hb
        rw [heq] at this
        have hjl : j < listed.size := by rw [M.size]; exact (Array.getElem?_eq_some_iff.1 ho).1
        rw [getD_both hjl, hu] at this
        cases this
  · intro hpq
    obtain ⟨i2, o2, hi2, ho2, _, hap, _⟩ := hpair p hpq
    rw [hi] at hi2; cases hi2
    rw [hoi'] at ho2; cases ho2
    rcases hap with h6 | ⟨e, hem, hb, heq⟩
    · exact absurd htk ((Oper.apart_spec h6).1 t hdp)
    · have := he e hem hb
      rw [heq] at this
      have hil : i < listed.size := by rw [M.size]; exact (Array.getElem?_eq_some_iff.1 hoi').1
      rwa [getD_both hil] at this

/-- One operation of those reckoned comes up. -/
theorem mid_put (F : SeqFacts ops eff ord) (M : Mid P ops eff ord a0 ps S listed a) {q j : Nat} {o : Oper} {v : Value} (hp : ps[q]? = some (o, v)) (hj : ord[q]? = some j) (hu : listed.getD j true = false)
    (he : ∀ e ∈ o.after, Region.binds .any e = true → listed.getD e.on false = true) : Mid P ops eff ord a0 ps S (listed.setIfInBounds j true) (a.put o.dst v) := by
  obtain ⟨j', hj', ho⟩ := M.pss q o v hp
  rw [hj] at hj'; cases hj'
  have hql : q < ps.length := (List.getElem?_eq_some_iff.1 hp).1
  have hjl : j < listed.size := by rw [M.size]; exact (Array.getElem?_eq_some_iff.1 ho).1
  refine ⟨by simpa using M.size, M.plen, fun i oi hi hl e hem hb => ?_, by rw [put_defers]; exact M.defers, by rw [put_size]; exact M.tsize, fun r i hr hi => ?_, M.pss, fun p op u i hpp hi hef => ?_, M.quiet, fun t k hk hw => ?_⟩
  · rw [getD_set hjl] at hl ⊢
    split
    · rfl
    · by_cases hij : i = j
      · subst hij
        rw [ho] at hi; cases hi
        exact he e hem hb
      · rw [if_neg hij] at hl
        exact M.down i oi hi hl e hem hb
  · rw [getD_set hjl, if_neg]
    · exact M.ahead r i hr hi
    · rintro rfl
      have := ord_inj F hi hj
      omega
  · rw [getD_set hjl]
    split
    · rfl
    · exact M.done p op u i hpp hi hef
  · by_cases hdt : o.dst = some t
    · have hqk : q < k := (hw q o v j hp hj hdt).1 (by rw [getD_set hjl, if_pos rfl])
      have hno := slot_kept (a0 := a0) (ps := ps) (t := t) (k - (q + 1)) (q + 1) (fun p op u h1 h2 hpp hdp => by
        obtain ⟨i, hi, hoi⟩ := M.pss p op u hpp
        have hli := (hw p op u i hpp hi hdp).2 (by omega)
        have hij : i ≠ j := by
          rintro rfl
          have := ord_inj F hi hj
          omega
        rw [getD_set hjl, if_neg hij] at hli
        have hpl : p < ord.length := (List.getElem?_eq_some_iff.1 hi).1
        obtain ⟨i2, op2, hi2, hop2, _, _, hpair2⟩ := F.at_ p hpl
        rw [hi] at hi2; cases hi2
        rw [hoi] at hop2; cases hop2
        obtain ⟨j2, o2, hj2, ho2, _, hap, _⟩ := hpair2 q (by omega)
        rw [hj] at hj2; cases hj2
        rw [ho] at ho2; cases ho2
        rcases hap with h6 | ⟨e, hem, hb, heq⟩
        · exact (Oper.apart_spec h6).2.1 t hdt hdp
        · have := M.down i op hoi hli e hem hb
          rw [heq, getD_both hjl, hu] at this
          cases this)
      rw [show q + 1 + (k - (q + 1)) = k from by omega] at hno
      rw [hno, stateAt_succ hp, hdt]
      exact put_tmps_eq (M.tsize.trans (stateAt_facts a0 ps q).1.symm)
    · rw [put_tmps_ne hdt]
      refine M.slots t k hk fun p op u i hpp hi hdp => ?_
      rw [← hw p op u i hpp hi hdp, getD_set hjl]
      by_cases hij : i = j
      · subst hij
        have hpq := ord_inj F hi hj
        subst hpq
        rw [hp] at hpp; cases hpp
        exact absurd hdp hdt
      · rw [if_neg hij]

/-- A quiet operation is reckoned; it has not come up. -/
theorem mid_more (F : SeqFacts ops eff ord) (M : Mid P ops eff ord a0 ps S listed a) {j : Nat} {o : Oper} {v : Value} (hj : ord[ps.length]? = some j) (ho : ops[j]? = some o) (hef : eff o = false) (hst : Still P ops S o v (stateAt a0 ps ps.length)) :
    Mid P ops eff ord a0 (ps ++ [(o, v)]) S listed a := by
  have hcase : ∀ (p : Nat) (op : Oper) (u : Value), (ps ++ [(o, v)])[p]? = some (op, u) → (p < ps.length ∧ ps[p]? = some (op, u)) ∨ (p = ps.length ∧ op = o ∧ u = v) := by
    intro p op u h
    rcases Nat.lt_trichotomy p ps.length with h1 | h1 | h1
    · rw [List.getElem?_append_left h1] at h; exact .inl ⟨h1, h⟩
    · subst h1
      simp at h
      exact .inr ⟨rfl, h.1.symm, h.2.symm⟩
    · rw [List.getElem?_eq_none (by simp; omega)] at h; cases h
  have hplt : ps.length < ord.length := (List.getElem?_eq_some_iff.1 hj).1
  refine ⟨M.size, by rw [List.length_append]; exact hplt, M.down, M.defers, M.tsize, fun q i hq hi => M.ahead q i (by simp at hq; omega) hi, fun p op u h => ?_, fun p op u i h hi he => ?_, fun p op u h he => ?_, fun t k hk hw => ?_⟩
  · rcases hcase p op u h with ⟨_, h1⟩ | ⟨rfl, rfl, rfl⟩
    · exact M.pss p op u h1
    · exact ⟨j, hj, ho⟩
  · rcases hcase p op u h with ⟨_, h1⟩ | ⟨rfl, rfl, rfl⟩
    · exact M.done p op u i h1 hi he
    · rw [hef] at he; cases he
  · rcases hcase p op u h with ⟨h0, h1⟩ | ⟨rfl, rfl, rfl⟩
    · rw [stateAt_snoc _ _ _ (Nat.le_of_lt h0)]
      exact M.quiet p op u h1 he
    · rw [stateAt_snoc _ _ _ (Nat.le_refl _)]
      exact hst
  · have hu : listed.getD j true = false := M.ahead ps.length j (Nat.le_refl _) hj
    by_cases hk2 : k ≤ ps.length
    · rw [stateAt_snoc _ _ _ hk2]
      exact M.slots t k hk2 fun p op u i hp hi hd => hw p op u i (by rw [List.getElem?_append_left (List.getElem?_eq_some_iff.1 hp).1]; exact hp) hi hd
    · have hk3 : k = ps.length + 1 := by simp at hk; omega
      subst hk3
      have hnd : o.dst ≠ some t := fun hd => by
        have := (hw ps.length o v j (by simp) hj hd).2 (by omega)
        rw [hu] at this; cases this
      rw [stateAt_last, put_tmps_ne hnd]
      refine M.slots t ps.length (Nat.le_refl _) fun p op u i hp hi hd => ?_
      have hpl := (List.getElem?_eq_some_iff.1 hp).1
      rw [hw p op u i (by rw [List.getElem?_append_left hpl]; exact hp) hi hd]
      omega

theorem Still.stronger {S' : World → Prop} {o : Oper} {v : Value} (h : Still P ops S o v a) (hs : ∀ W, S' W → S W) : Still P ops S' o v a := h.imp (fun ⟨h1, h2⟩ => ⟨h1, fun w hw => h2 w (hs w hw)⟩) id

/-- A deed comes up and is reckoned. -/
theorem mid_deed (F : SeqFacts ops eff ord) (M : Mid P ops eff ord a0 ps S listed a) {j : Nat} {o : Oper} {v : Value} {S' : World → Prop} (hj : ord[ps.length]? = some j) (ho : ops[j]? = some o) (hef : eff o = true)
    (he : ∀ e ∈ o.after, Region.binds .any e = true → listed.getD e.on false = true) (hs : ∀ W, S' W → S W) :
    Mid P ops eff ord a0 (ps ++ [(o, v)]) S' (listed.setIfInBounds j true) (a.put o.dst v) := by
  have hcase : ∀ (p : Nat) (op : Oper) (u : Value), (ps ++ [(o, v)])[p]? = some (op, u) → (p < ps.length ∧ ps[p]? = some (op, u)) ∨ (p = ps.length ∧ op = o ∧ u = v) := by
    intro p op u h
    rcases Nat.lt_trichotomy p ps.length with h1 | h1 | h1
    · rw [List.getElem?_append_left h1] at h; exact .inl ⟨h1, h⟩
    · subst h1
      simp at h
      exact .inr ⟨rfl, h.1.symm, h.2.symm⟩
    · rw [List.getElem?_eq_none (by simp; omega)] at h; cases h
  have hplt : ps.length < ord.length := (List.getElem?_eq_some_iff.1 hj).1
  have hu : listed.getD j true = false := M.ahead ps.length j (Nat.le_refl _) hj
  have hjl : j < listed.size := by rw [M.size]; exact (Array.getElem?_eq_some_iff.1 ho).1
  refine ⟨by simpa using M.size, by rw [List.length_append]; exact hplt, fun i oi hi hl e hem hb => ?_, by rw [put_defers]; exact M.defers, by rw [put_size]; exact M.tsize, fun q i hq hi => ?_, fun p op u h => ?_, fun p op u i h hi hf => ?_, fun p op u h hf => ?_, fun t k hk hw => ?_⟩
  · rw [getD_set hjl] at hl ⊢
    split
    · rfl
    · by_cases hij : i = j
      · subst hij
        rw [ho] at hi; cases hi
        exact he e hem hb
      · rw [if_neg hij] at hl
        exact M.down i oi hi hl e hem hb
  · simp at hq
    rw [getD_set hjl, if_neg]
    · exact M.ahead q i (by omega) hi
    · rintro rfl
      have := ord_inj F hi hj
      omega
  · rcases hcase p op u h with ⟨_, h1⟩ | ⟨rfl, rfl, rfl⟩
    · exact M.pss p op u h1
    · exact ⟨j, hj, ho⟩
  · rw [getD_set hjl]
    split
    · rfl
    · rcases hcase p op u h with ⟨_, h1⟩ | ⟨rfl, rfl, rfl⟩
      · exact M.done p op u i h1 hi hf
      · rw [hj] at hi; cases hi
        rename_i hne
        exact absurd rfl hne
  · rcases hcase p op u h with ⟨h0, h1⟩ | ⟨rfl, rfl, rfl⟩
    · rw [stateAt_snoc _ _ _ (Nat.le_of_lt h0)]
      exact (M.quiet p op u h1 hf).stronger hs
    · rw [hef] at hf; cases hf
  · have hsl : ∀ (p : Nat) (op : Oper) (u : Value) (i : Nat), ps[p]? = some (op, u) → ord[p]? = some i → i ≠ j := fun p op u i hp hi => by
      rintro rfl
      have := ord_inj F hi hj
      have := (List.getElem?_eq_some_iff.1 hp).1
      omega
    by_cases hk2 : k ≤ ps.length
    · rw [stateAt_snoc _ _ _ hk2]
      have hnd : o.dst ≠ some t := fun hd => by
        have := (hw ps.length o v j (by simp) hj hd).1 (by rw [getD_set hjl, if_pos rfl])
        omega
      rw [put_tmps_ne hnd]
      refine M.slots t k hk2 fun p op u i hp hi hd => ?_
      rw [← hw p op u i (by rw [List.getElem?_append_left (List.getElem?_eq_some_iff.1 hp).1]; exact hp) hi hd, getD_set hjl, if_neg (hsl p op u i hp hi)]
    · have hk3 : k = ps.length + 1 := by simp at hk; omega
      subst hk3
      rw [stateAt_last]
      by_cases hd : o.dst = some t
      · rw [hd]
        exact put_tmps_eq (M.tsize.trans (stateAt_facts a0 ps ps.length).1.symm)
      · rw [put_tmps_ne hd, put_tmps_ne hd]
        refine M.slots t ps.length (Nat.le_refl _) fun p op u i hp hi hdp => ?_
        have hpl := (List.getElem?_eq_some_iff.1 hp).1
        have h9 := hw p op u i (by rw [List.getElem?_append_left hpl]; exact hp) hi hdp
        rw [getD_set hjl, if_neg (hsl p op u i hp hi)] at h9
        rw [h9]
        omega

theorem seq_listed (F : SeqFacts ops eff ord) (hs : listed.size = ops.size) (h : Region.ready .any ops listed = []) : ∀ j, listed.getD j true = true := by
  have key : ∀ (q j : Nat), ord[q]? = some j → listed.getD j true = true := by
    intro q
    induction q using Nat.strongRecOn with
    | _ q ih =>
      intro j hj
      cases hl : listed.getD j true with
      | true => rfl
      | false =>
        exfalso
        have hql : q < ord.length := (List.getElem?_eq_some_iff.1 hj).1
        obtain ⟨j', o, hj', ho, _, hed, _⟩ := F.at_ q hql
        rw [hj] at hj'; cases hj'
        have hjl : j < ops.size := (Array.getElem?_eq_some_iff.1 ho).1
        have hm : j ∈ Region.ready .any ops listed := by
          unfold Region.ready
          simp only [List.mem_filter, List.mem_range, Bool.and_eq_true, Bool.not_eq_true']
          refine ⟨hjl, hl, ?_⟩
          rw [ho]
          simp only [Option.map_some, Option.getD_some, Array.all_eq_true_iff_forall_mem, Bool.or_eq_true, Bool.not_eq_true']
          intro e hem
          cases hb : Region.binds .any e with
          | false => exact .inl rfl
          | true =>
            obtain ⟨p, hp, hpo⟩ := mem_take_pos (hed e hem hb)
            have h2 := ih p hp e.on hpo
            have hpl : p < ord.length := (List.getElem?_eq_some_iff.1 hpo).1
            obtain ⟨i', o', hi', ho', _⟩ := F.at_ p hpl
            rw [hpo] at hi'; cases hi'
            have h3 : e.on < listed.size := by rw [hs]; exact (Array.getElem?_eq_some_iff.1 ho').1
            rw [getD_both h3]
            exact .inr h2
        rw [h] at hm
        cases hm
  intro j
  rcases Nat.lt_or_ge j listed.size with hlt | hge
  · obtain ⟨q, hq⟩ := List.getElem?_of_mem (F.mem j (by omega))
    exact key q j hq
  · simp [Array.getD, Nat.not_lt.2 hge]

theorem seq_any (F : SeqFacts ops eff ord) {R : Act → World → Prop} {Q : Exit → Act → World → Prop} (hQ : ∀ a w, R a w → Q .normal a w) :
    ∀ (fuel : Nat) (ps : List (Oper × Value)) (rest : List Oper) (S : World → Prop) (listed : Array Bool) (a : Act) (w : World), Mid P ops eff ord a0 ps S listed a →
      (∀ q : Nat, ps.length ≤ q → ((ord[q]?).bind (ops[·]?)) = rest[q - ps.length]?) → S w → wpSeq P ops eff R rest S (stateAt a0 ps ps.length) w → listed.toList.count false ≤ fuel →
      wpAny P .any ops Q fuel listed a w := by
  -- the quiet operations that stand next are reckoned at once
  have adv : ∀ (rest : List Oper) (ps : List (Oper × Value)) (S : World → Prop) (listed : Array Bool) (a : Act) (w : World), Mid P ops eff ord a0 ps S listed a →
      (∀ q : Nat, ps.length ≤ q → ((ord[q]?).bind (ops[·]?)) = rest[q - ps.length]?) → wpSeq P ops eff R rest S (stateAt a0 ps ps.length) w →
      ∃ ps' rest', Mid P ops eff ord a0 ps' S listed a ∧ (∀ q : Nat, ps'.length ≤ q → ((ord[q]?).bind (ops[·]?)) = rest'[q - ps'.length]?) ∧ wpSeq P ops eff R rest' S (stateAt a0 ps' ps'.length) w ∧ (rest' = [] ∨ ∃ o r, rest' = o :: r ∧ eff o = true) := by
    intro rest
    induction rest with
    | nil => intro ps S listed a w M hr hw; exact ⟨ps, [], M, hr, hw, .inl rfl⟩
    | cons o rest ih =>
      intro ps S listed a w M hr hw
      cases hef : eff o with
      | true => exact ⟨ps, o :: rest, M, hr, hw, .inr ⟨o, rest, rfl, hef⟩⟩
      | false =>
        rcases hw with ⟨_, v, hst, hw⟩ | ⟨h, _⟩
        · have h0 := hr ps.length (Nat.le_refl _)
          rw [Nat.sub_self] at h0
          simp only [List.getElem?_cons_zero] at h0
          obtain ⟨j, hj, ho⟩ := Option.bind_eq_some_iff.1 h0
          refine ih (ps ++ [(o, v)]) S listed a w (mid_more F M hj ho hef hst) (fun q hq => ?_) ?_
          · simp only [List.length_append, List.length_singleton] at hq ⊢
            rw [hr q (by omega), show q - ps.length = (q - (ps.length + 1)) + 1 from by omega, List.getElem?_cons_succ]
          · rw [List.length_append, List.length_singleton, stateAt_last]
            exact hw
        · rw [hef] at h; cases h
  have fin : ∀ (ps : List (Oper × Value)) (rest : List Oper) (S : World → Prop) (listed : Array Bool) (a : Act) (w : World), Mid P ops eff ord a0 ps S listed a →
      (∀ q : Nat, ps.length ≤ q → ((ord[q]?).bind (ops[·]?)) = rest[q - ps.length]?) → wpSeq P ops eff R rest S (stateAt a0 ps ps.length) w → (∀ j, listed.getD j true = true) → Q .normal a w := by
    intro ps rest S listed a w M hr hw hall
    have hpl : ps.length = ord.length := by
      rcases Nat.lt_or_ge ps.length ord.length with h | h
      · have hj := List.getElem?_eq_getElem h
        have := M.ahead ps.length _ (Nat.le_refl _) hj
        rw [hall] at this; cases this
      · have := M.plen
        omega
    have hrest : rest = [] := by
      cases rest with
      | nil => rfl
      | cons o r =>
        have h0 := hr ps.length (Nat.le_refl _)
        rw [Nat.sub_self, List.getElem?_eq_none (by omega)] at h0
        simp at h0
    subst hrest
    have ha : a = stateAt a0 ps ps.length := by
      obtain ⟨ta, da⟩ := a
      have e1 : ta = (stateAt a0 ps ps.length).tmps := Array.ext_getElem? fun t => M.slots t ps.length (Nat.le_refl _) fun p o v j hp hj hd => by
        simp only [hall j, true_iff]
        exact (List.getElem?_eq_some_iff.1 hp).1
      have e2 : da = (stateAt a0 ps ps.length).defers := M.defers.trans (stateAt_facts _ _ _).2.symm
      rw [e1, e2]
    rw [ha]
    exact hQ _ _ hw
  intro fuel
  induction fuel with
  | zero =>
    intro ps rest S listed a w M hr hS hw hc
    have hall : ∀ j, listed.getD j true = true := by
      intro j
      rcases Nat.lt_or_ge j listed.size with hlt | hge
      · cases hl : listed.getD j true with
        | true => rfl
        | false =>
          have hv : listed[j] = false := by simpa [Array.getD, hlt] using hl
          have hm : false ∈ listed.toList := by
            rw [← hv]
            exact Array.mem_toList_iff.2 (Array.getElem_mem hlt)
          have := List.count_pos_iff.2 hm
          omega
      · simp [Array.getD, Nat.not_lt.2 hge]
    refine ⟨?_, fin ps rest S listed a w M hr hw hall⟩
    rcases hrd : Region.ready .any ops listed with _ | ⟨i, r⟩
    · rfl
    · have := (ready_spec (ops := ops) (listed := listed) (i := i) (by rw [hrd]; simp)).1
      rw [hall] at this
      cases this
  | succ fuel ih =>
    intro ps0 rest0 S listed a w M0 hr0 hS hw0 hc
    obtain ⟨ps, rest, M, hr, hw, hnext⟩ := adv rest0 ps0 S listed a w M0 hr0 hw0
    refine ⟨fun hrd => fin ps rest S listed a w M hr hw (seq_listed F M.size hrd), fun j hjr => ?_⟩
    obtain ⟨hu, o, ho, he⟩ := ready_spec hjr
    have hjl : j < ops.size := (Array.getElem?_eq_some_iff.1 ho).1
    obtain ⟨q, hq⟩ := List.getElem?_of_mem (F.mem j hjl)
    have hc' := count_set hu hc
    unfold wpOp
    simp only [ho]
    rcases Nat.lt_or_ge q ps.length with hlt | hge
    · -- one of those reckoned
      have hp : ∃ x, ps[q]? = some x := ⟨_, List.getElem?_eq_getElem hlt⟩
      obtain ⟨⟨o', v⟩, hp⟩ := hp
      obtain ⟨j', hj', ho'⟩ := M.pss q o' v hp
      rw [hq] at hj'; cases hj'
      rw [ho] at ho'; cases ho'
      have hef : eff o = false := by
        cases hef : eff o with
        | false => rfl
        | true =>
          have := M.done q o v j hp hq hef
          rw [hu] at this; cases this
      have M' := mid_put F M hp hq hu he
      have hst := M.quiet q o v hp hef
      obtain ⟨e1, e2⟩ := mid_same F M (Nat.le_of_lt hlt) hq ho hu he
      rcases hst with ⟨h1, h2⟩ | ⟨h1, rfl⟩
      · rw [if_pos (by rw [e2]; exact h1)]
        refine .inl ?_
        unfold Oper.wp
        rw [e1, h2 w hS]
        exact ih ps rest S _ _ w M' hr hS hw hc'
      · rw [if_neg (by rw [e2, h1]; simp)]
        exact ih ps rest S _ _ w M' hr hS hw hc'
    · -- the deed that stands next
      have hql : q < ord.length := (List.getElem?_eq_some_iff.1 hq).1
      rcases hnext with rfl | ⟨o', r, rfl, hef⟩
      · have h0 := hr q hge
        rw [hq] at h0
        simp [ho] at h0
      · have h0 := hr ps.length (Nat.le_refl _)
        rw [Nat.sub_self] at h0
        simp only [List.getElem?_cons_zero] at h0
        obtain ⟨i, hi, hoi⟩ := Option.bind_eq_some_iff.1 h0
        have hqe : q = ps.length := by
          rcases Nat.lt_or_ge ps.length q with h | h
          · exfalso
            obtain ⟨j', oj', hj', hoj', _, _, hpair⟩ := F.at_ q hql
            rw [hq] at hj'; cases hj'
            obtain ⟨i', oi', hi', hoi', _, _, hbl⟩ := hpair ps.length h
            rw [hi] at hi'; cases hi'
            rw [hoi] at hoi'; cases hoi'
            have h5 := below_listed M.down M.size ops.size j (fun oj hoj => by rw [ho] at hoj; cases hoj; exact he) i (hbl hef)
            have hil : i < listed.size := by rw [M.size]; exact (Array.getElem?_eq_some_iff.1 hoi).1
            rw [getD_both hil, M.ahead ps.length i (Nat.le_refl _) hi] at h5
            cases h5
          · omega
        subst hqe
        rw [hq] at hi; cases hi
        rw [ho] at hoi; cases hoi
        rcases hw with ⟨h, _⟩ | ⟨_, hwant, hdo⟩
        · rw [hef] at h; cases h
        · obtain ⟨e1, e2⟩ := mid_same F M (Nat.le_refl _) hq ho hu he
          rw [if_pos (by rw [e2]; exact hwant)]
          refine .inl ?_
          rw [← e1] at hdo
          refine hdo.wp fun v w' ⟨S', hS', himp, hw'⟩ => ?_
          refine ih (ps ++ [(o, v)]) r S' _ _ w' (mid_deed F M hq ho hef he himp) (fun k hk => ?_) hS' ?_ hc'
          · simp only [List.length_append, List.length_singleton] at hk ⊢
            rw [hr k (by omega), show k - ps.length = (k - (ps.length + 1)) + 1 from by omega, List.getElem?_cons_succ]
          · rw [List.length_append, List.length_singleton, stateAt_last]
            exact hw'
end

/-- The operations by their numbers. -/
def byNum (l : List Oper) : List Nat → List Oper
  | [] => []
  | i :: r => match l[i]? with
    | some o => o :: byNum l r
    | none => byNum l r
theorem byNum_at {l : List Oper} : ∀ (ord : List Nat), (∀ i ∈ ord, i < l.length) → ∀ q : Nat, ((ord[q]?).bind (l[·]?)) = (byNum l ord)[q]?
  | [], _, q => by simp [byNum]
  | i :: r, h, q => by
    have hi := h i List.mem_cons_self
    have e : l[i]? = some l[i] := List.getElem?_eq_getElem hi
    unfold byNum
    rw [e]
    cases q with
    | zero => simp [e]
    | succ q => simpa using byNum_at r (fun j hj => h j (List.mem_cons_of_mem _ hj)) q

/-- **A region that draws its order, walked in the order ord.** -/
theorem wp_region_seq {id : Nat} {a : Act} {w : World} {Q : Exit → Act → World → Prop} (eff : Oper → Bool) (ord : List Nat) (S : World → Prop) {l : List Oper} (hm : P.follows .mixedOrders = true) (hok : seqChk l.toArray eff ord = true) (hS : S w.drew)
    (h : wpSeq P l.toArray eff (fun a' w' => Q .normal a' w') (byNum l ord) S a w.drew) : (Code.region id l.toArray true).wp P Q a w := by
  have F := seqChk_spec hok
  refine wp_region_any hm ?_
  have hmem : ∀ i ∈ ord, i < l.length := fun i hi => by
    obtain ⟨q, hq⟩ := List.getElem?_of_mem hi
    obtain ⟨j, oj, hj, hoj, _⟩ := F.at_ q (List.getElem?_eq_some_iff.1 hq).1
    rw [hq] at hj; cases hj
    simpa using (Array.getElem?_eq_some_iff.1 hoj).1
  refine seq_any (a0 := a) F (R := fun a' w' => Q .normal a' w') (fun _ _ h => h) _ [] (byNum l ord) S _ a _ ?_ (fun q _ => ?_) hS (by simpa [stateAt] using h) (Nat.le_trans List.count_le_length (by simp))
  · refine ⟨by simp, by simp, fun j oj hj hl => ?_, rfl, rfl, fun q j _ hj => ?_, by simp, by simp, by simp, fun t k hk _ => ?_⟩
    · have hlt : j < l.toArray.size := (Array.getElem?_eq_some_iff.1 hj).1
      have hlt' : j < l.length := by simpa using hlt
      simp [Array.getD, hlt'] at hl
    · have hjl := hmem j (List.mem_of_getElem? hj)
      simp [Array.getD, hjl]
    · simp [stateAt]
  · have := byNum_at (l := l) ord hmem q
    simpa using this

/-- What is a deed: whatever calls a function, or makes or writes memory. -/
def deed (o : Oper) : Bool := match o.op with
  | .call c => match c.callee with
    | .builtin b => match b with
      | .append => true
      | .copy => true
      | _ => false
    | _ => true
  | .store .. => true
  | .alloc .. => true
  | .box .. => true
  | .buildSlice .. => true
  | .makeSlice .. => true
  | .makeFunc .. => true
  | .makeMap .. => true
  | _ => false

section
variable {ops : Array Oper} {eff : Oper → Bool} {R : Act → World → Prop} {S : World → Prop} {a : Act} {w : World} {o : Oper} {rest : List Oper}
theorem seq_nil (h : R a w) : wpSeq P ops eff R [] S a w := h
theorem seq_skip (he : eff o = false) (hw : Region.wanted o (yielded ops a.tmps) = false) (hr : wpSeq P ops eff R rest S (a.put o.dst undef) w) : wpSeq P ops eff R (o :: rest) S a w := .inl ⟨he, undef, .inr ⟨hw, rfl⟩, hr⟩
theorem seq_val {v : Value} (he : eff o = false) (hw : Region.wanted o (yielded ops a.tmps) = true) (h : ∀ w, S w → (execOp a.eval o).run P w = .ok (.value v) w) (hr : wpSeq P ops eff R rest S (a.put o.dst v) w) : wpSeq P ops eff R (o :: rest) S a w :=
  .inl ⟨he, v, .inl ⟨hw, h⟩, hr⟩
theorem seq_call {f : FuncId} {args : Array Value} (he : eff o = true) (hw : Region.wanted o (yielded ops a.tmps) = true) (hf : (execOp a.eval o).run P w = .ok (.enter f args) w)
    (h : Calls P f args w fun e w' => ∃ v, e = .returned v ∧ ∃ S' : World → Prop, S' w' ∧ (∀ W, S' W → S W) ∧ wpSeq P ops eff R rest S' (a.put o.dst v) w') : wpSeq P ops eff R (o :: rest) S a w :=
  .inr ⟨he, hw, by unfold Does; rw [hf]; exact h⟩
theorem seq_deed {v : Value} {w' : World} (he : eff o = true) (hw : Region.wanted o (yielded ops a.tmps) = true) (hf : (execOp a.eval o).run P w = .ok (.value v) w')
    (h : ∃ S' : World → Prop, S' w' ∧ (∀ W, S' W → S W) ∧ wpSeq P ops eff R rest S' (a.put o.dst v) w') : wpSeq P ops eff R (o :: rest) S a w :=
  .inr ⟨he, hw, by unfold Does; rw [hf]; exact h⟩
theorem seq_store {w' : World} (he : eff o = true) (hw : Region.wanted o (yielded ops a.tmps) = true) (hf : (execOp a.eval o).run P w = .ok .skip w')
    (h : ∃ S' : World → Prop, S' w' ∧ (∀ W, S' W → S W) ∧ wpSeq P ops eff R rest S' (a.put o.dst undef) w') : wpSeq P ops eff R (o :: rest) S a w :=
  .inr ⟨he, hw, by unfold Does; rw [hf]; exact h⟩
end
end

/-! ### append of a slice that reads -/
section
open Go.RowKit
variable {P : Program} (w : World)
theorem run_append_of_nil (base : Nat) (t ty e : TypeId) (i : TypeInfo) (size : Nat) (ht : P.underlying t = some (.slice e)) (hi : P.info? e = some i)
    (v : Value) (n : Nat) (xs : List Value) (hown : w.ownsRow base e size v n xs) (c : Nat) : (Builtin.append_ #[t, t] ty #[v, .slice none 0 c]).run P w = .ok v w := by
  rcases hown.2 with ⟨rfl, rfl⟩ | ⟨g, cap, cur, rfl, _, _, hnc, _⟩
  · simp [Builtin.append_, run_underlying ht, sizeOf, typeInfo, hi, Builtin.lenOf, Builtin.firstCells]
  · simp [Builtin.append_, run_underlying ht, sizeOf, typeInfo, hi, Builtin.lenOf, Builtin.firstCells, hnc, storeCells]
theorem run_append_any (base : Nat) (t ty e : TypeId) (i : TypeInfo) (z : Value) (size bytes : Nat) (ht : P.underlying t = some (.slice e)) (hi : P.info? e = some i) (hz : i.zero = some z)
    (hsize : i.size = size) (hby : i.bytes = bytes) (hzs : z.cells.size = size) (hsz : 0 < size)
    (v : Value) (n : Nat) (xs : List Value) (hown : w.ownsRow base e size v n xs)
    (B : Nat) (A : Option Addr) (m c : Nat) (news : List Value) (hr : Reads w B size A m news) (hm0 : A = none → m = 0) (h1 : ∀ u ∈ news, u.oneCell' = true)
    (h63 : n + m ≤ maxLen) (hbytes : (n + m) * bytes ≤ 140737488355328) (hbase : base ≤ w.heap.size) :
    ∃ v' w', (Builtin.append_ #[t, t] ty #[v, .slice A m c]).run P w = .ok v' w' ∧ w'.ownsRow base e size v' (n + m) (xs ++ news) ∧ w.grownBy w' v.ownBlock := by
  rcases A with _ | ad
  · have hm : m = 0 := hm0 rfl
    subst hm
    have hn : news = [] := List.eq_nil_of_length_eq_zero (by simpa using hr.1)
    subst hn
    exact ⟨v, w, run_append_of_nil w base t ty e i size ht hi v n xs hown c, by simpa using hown, World.grownBy.refl w _⟩
  · have hcells : ∀ j u, news[j]? = some u → w.cell? (ad.add j) = some u := by
      intro j u hu
      rcases Nat.eq_zero_or_pos m with h0 | h0
      · subst h0
        have hn : news = [] := List.eq_nil_of_length_eq_zero (by simpa using hr.1)
        subst hn
        simp at hu
      · obtain ⟨ad', h, _, hc⟩ := hr.2 h0
        injection h with h
        subst h
        exact hc j u hu
    obtain ⟨v', w', hrun, h2, h3, _, _⟩ := run_append_own_at (P := P) w base t ty e i z size bytes ht hi hz hsize hby hzs hsz v n xs hown ad m c news hr.1 hcells h1 h63 hbytes hbase
    exact ⟨v', w', hrun, h2, h3⟩
theorem seq_append {ops : Array Oper} {eff : Oper → Bool} {R : Act → World → Prop} {S : World → Prop} {a : Act} {o : Oper} {rest : List Oper} (he : eff o = true) (hw : Region.wanted o (yielded ops a.tmps) = true) (s x : Operand) (t : TypeId)
    (ho : o.op = .call { callee := .builtin .append, args := #[s, x], argTypes := #[t, t] })
    (base : Nat) (e : TypeId) (i : TypeInfo) (z : Value) (size bytes : Nat) (ht : P.underlying t = some (.slice e)) (hi : P.info? e = some i) (hz : i.zero = some z)
    (hsize : i.size = size) (hby : i.bytes = bytes) (hzs : z.cells.size = size) (hsz : 0 < size)
    (v : Value) (n : Nat) (xs : List Value) (hs : a.eval s = v) (hown : w.ownsRow base e size v n xs)
    (B : Nat) (A : Option Addr) (m c : Nat) (news : List Value) (hx : a.eval x = .slice A m c) (hr : Reads w B size A m news) (hm0 : A = none → m = 0) (h1 : ∀ u ∈ news, u.oneCell' = true)
    (h63 : n + m ≤ maxLen) (hbytes : (n + m) * bytes ≤ 140737488355328) (hbase : base ≤ w.heap.size)
    (h : ∀ A' c' w', w'.ownsRow base e size (.slice A' (n + m) c') (n + m) (xs ++ news) → w.grownBy w' v.ownBlock → ∃ S' : World → Prop, S' w' ∧ (∀ W, S' W → S W) ∧ wpSeq P ops eff R rest S' (a.put o.dst (.slice A' (n + m) c')) w') :
    wpSeq P ops eff R (o :: rest) S a w := by
  obtain ⟨v', w', hrun, h2, h3⟩ := run_append_any (P := P) w base t o.type e i z size bytes ht hi hz hsize hby hzs hsz v n xs hown B A m c news hr hm0 h1 h63 hbytes hbase
  have hv : ∃ A' c', v' = .slice A' (n + m) c' := by
    rcases h2.2 with ⟨rfl, h0⟩ | ⟨g, cap, _, rfl, _⟩
    · exact ⟨none, 0, by rw [h0]⟩
    · exact ⟨_, _, rfl⟩
  obtain ⟨A', c', rfl⟩ := hv
  refine seq_deed (v := .slice A' (n + m) c') (w' := w') he hw ?_ (h A' c' w' h2 h3)
  unfold execOp
  simp only [ho, resolve, invoke, builtin, Sem.run_bind, Sem.run_pure, Result.andThen_ok, List.map_toArray, List.map_cons, List.map_nil, hs, hx, hrun]
end
end Go.Proofs.Ytbeojfhakmbacaa
