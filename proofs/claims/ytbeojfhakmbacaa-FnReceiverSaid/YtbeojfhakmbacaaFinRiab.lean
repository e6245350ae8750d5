/- What is proved here is used by the law below: contracts of functions and plain lemmas (part 2 of 17). Their conditions stand in each. -/
import Derived.Maps.AppendAt
import Derived.Test.YtbeojfhakmbacaaProg
import Derived.WalkKit
import Derived.Test.YtbeojfhakmbacaaFinRiaa
namespace Go.Proofs.Ytbeojfhakmbacaa
open Go
section
variable {P : Program}
def Does (P : Program) (x : Sem Next) (w : World) (C : Value → World → Prop) : Prop :=
  match x.run P w with
  | .ok (.value v) w' => C v w'
  | .ok .skip w' => C undef w'
  | .ok (.enter f args) w' => Calls P f args w' fun e w'' => ∃ v, e = .returned v ∧ C v w''
  | _ => False
theorem Does.wp {o : Oper} {a : Act} {w : World} {C : Value → World → Prop} {K : Act → World → Prop} {Q : Exit → Act → World → Prop} (h : Does P (execOp a.eval o) w C) (hK : ∀ v w', C v w' → K (a.put o.dst v) w') : o.wp P a w K Q := by
  unfold Does at h
  unfold Oper.wp
  generalize (execOp a.eval o).run P w = r at h
  cases r with
  | ok n w' =>
    cases n <;> simp only at h <;> simp only [Oper.upon]
    case value u => exact hK _ _ h
    case skip => exact hK _ _ h
    case enter f args => exact h.mono fun e w'' ⟨v, he, hc⟩ => by subst he; exact hK _ _ hc
  | halt x w' => exact h.elim
def Still (P : Program) (ops : Array Oper) (S : World → Prop) (o : Oper) (v : Value) (a : Act) : Prop :=
  (Region.wanted o (yielded ops a.tmps) = true ∧ ∀ w, S w → (execOp a.eval o).run P w = .ok (.value v) w) ∨ (Region.wanted o (yielded ops a.tmps) = false ∧ v = undef)
def wpSeq (P : Program) (ops : Array Oper) (eff : Oper → Bool) (R : Act → World → Prop) : List Oper → (World → Prop) → Act → World → Prop
  | [], _, a, w => R a w
  | o :: rest, S, a, w => (eff o = false ∧ ∃ v, Still P ops S o v a ∧ wpSeq P ops eff R rest S (a.put o.dst v) w) ∨
      (eff o = true ∧ Region.wanted o (yielded ops a.tmps) = true ∧ Does P (execOp a.eval o) w fun v w' => ∃ S' : World → Prop, S' w' ∧ (∀ W, S' W → S W) ∧ wpSeq P ops eff R rest S' (a.put o.dst v) w')
def seqChk (ops : Array Oper) (eff : Oper → Bool) (ord : List Nat) : Bool :=
  decide (ord.length = ops.size) && (List.range ops.size).all (fun i => ord.contains i) &&
  (List.range ord.length).all fun q => match ord[q]? with
    | none => false
    | some j => match ops[j]? with
      | none => false
      | some oj => (match oj.op with | .select .. => false | _ => true) && oj.after.toList.all (fun e => !Region.binds .any e || (ord.take q).contains e.on) &&
        (List.range q).all fun p => match ord[p]? with
          | none => false
          | some i => match ops[i]? with
            | none => false
            | some oi => decide (i ≠ j) && ((oi.apart ops oj || oj.after.toList.any (fun e => Region.binds .any e && e.on == i)) && (!eff oi || (belowOf ops ops.size j).contains i))
structure SeqFacts (ops : Array Oper) (eff : Oper → Bool) (ord : List Nat) : Prop where
  len : ord.length = ops.size
  mem : ∀ i, i < ops.size → i ∈ ord
  at_ : ∀ q : Nat, q < ord.length → ∃ j oj, ord[q]? = some j ∧ ops[j]? = some oj ∧ (∀ cs b, oj.op ≠ .select cs b) ∧ (∀ e ∈ oj.after, Region.binds .any e = true → e.on ∈ ord.take q) ∧
    ∀ p : Nat, p < q → ∃ i oi, ord[p]? = some i ∧ ops[i]? = some oi ∧ i ≠ j ∧ (oi.apart ops oj = true ∨ ∃ e ∈ oj.after, Region.binds .any e = true ∧ e.on = i) ∧ (eff oi = true → i ∈ belowOf ops ops.size j)
theorem seqChk_spec {ops : Array Oper} {eff : Oper → Bool} {ord : List Nat} (h : seqChk ops eff ord = true) : SeqFacts ops eff ord := by
  unfold seqChk at h
  simp only [Bool.and_eq_true, decide_eq_true_eq] at h
  obtain ⟨⟨h1, h2⟩, h3⟩ := h
  refine ⟨h1, fun i hi => by simpa using List.all_eq_true.1 h2 i (by simpa using hi), fun q hq => ?_⟩
  have h4 := List.all_eq_true.1 h3 q (by simpa using hq)
  cases hj : ord[q]? with
  | none => rw [hj] at h4; simp at h4
  | some j =>
    rw [hj] at h4
    cases ho : ops[j]? with
    | none => simp only [ho] at h4; cases h4
    | some oj =>
      simp only [ho, Bool.and_eq_true] at h4
      obtain ⟨⟨h5, h6⟩, h7⟩ := h4
      refine ⟨j, oj, rfl, ho, fun cs b e => by rw [e] at h5; simp at h5, fun e he hb => ?_, fun p hp => ?_⟩
      · have := List.all_eq_true.1 h6 e (by simpa using he)
        simpa [hb] using this
      · have h8 := List.all_eq_true.1 h7 p (by simpa using hp)
        cases hi : ord[p]? with
        | none => rw [hi] at h8; simp at h8
        | some i =>
          rw [hi] at h8
          cases hoi : ops[i]? with
          | none => simp only [hoi] at h8; cases h8
          | some oi =>
            simp only [hoi, Bool.and_eq_true, Bool.or_eq_true, decide_eq_true_eq] at h8
            obtain ⟨hne, h8⟩ := h8
            refine ⟨i, oi, rfl, hoi, hne, h8.1.imp id fun h9 => ?_, fun he => ?_⟩
            · obtain ⟨e, he, hb⟩ := List.any_eq_true.1 h9
              simp only [Bool.and_eq_true, beq_iff_eq] at hb
              exact ⟨e, by simpa using he, hb.1, hb.2⟩
            · rcases h8.2 with h9 | h9
              · rw [he] at h9; cases h9
              · simpa using h9
structure Mid (P : Program) (ops : Array Oper) (eff : Oper → Bool) (ord : List Nat) (a0 : Act) (ps : List (Oper × Value)) (S : World → Prop) (listed : Array Bool) (a : Act) : Prop where
  size : listed.size = ops.size
  plen : ps.length ≤ ord.length
  down : ∀ (j : Nat) oj, ops[j]? = some oj → listed.getD j true = true → ∀ e ∈ oj.after, Region.binds .any e = true → listed.getD e.on false = true
  defers : a.defers = a0.defers
  tsize : a.tmps.size = a0.tmps.size
  ahead : ∀ (q j : Nat), ps.length ≤ q → ord[q]? = some j → listed.getD j true = false
  pss : ∀ (p : Nat) (o : Oper) (v : Value), ps[p]? = some (o, v) → ∃ j, ord[p]? = some j ∧ ops[j]? = some o
  done : ∀ (p : Nat) (o : Oper) (v : Value) (j : Nat), ps[p]? = some (o, v) → ord[p]? = some j → eff o = true → listed.getD j true = true
  quiet : ∀ (p : Nat) (o : Oper) (v : Value), ps[p]? = some (o, v) → eff o = false → Still P ops S o v (stateAt a0 ps p)
  slots : ∀ (t k : Nat), k ≤ ps.length → (∀ (p : Nat) (o : Oper) (v : Value) (j : Nat), ps[p]? = some (o, v) → ord[p]? = some j → o.dst = some t → (listed.getD j true = true ↔ p < k)) → a.tmps[t]? = (stateAt a0 ps k).tmps[t]?
theorem stateAt_facts (a0 : Act) (ps : List (Oper × Value)) : ∀ k, (stateAt a0 ps k).tmps.size = a0.tmps.size ∧ (stateAt a0 ps k).defers = a0.defers := by
  intro k
  induction k with
  | zero => simp [stateAt]
  | succ k ih =>
    cases hk : ps[k]? with
    | none =>
      have : ps.length ≤ k := by simpa using hk
      have e : stateAt a0 ps (k + 1) = stateAt a0 ps k := by simp [stateAt, List.take_of_length_le this, List.take_of_length_le (Nat.le_succ_of_le this)]
      rw [e]; exact ih
    | some p =>
      obtain ⟨o, v⟩ := p
      rw [stateAt_succ hk, put_size, put_defers]; exact ih
theorem stateAt_snoc (a0 : Act) (ps : List (Oper × Value)) (x : Oper × Value) {k : Nat} (hk : k ≤ ps.length) : stateAt a0 (ps ++ [x]) k = stateAt a0 ps k := by
  simp [stateAt, List.take_append_of_le_length hk]
theorem stateAt_last (a0 : Act) (ps : List (Oper × Value)) (o : Oper) (v : Value) : stateAt a0 (ps ++ [(o, v)]) (ps.length + 1) = (stateAt a0 ps ps.length).put o.dst v := by
  rw [stateAt_succ (o := o) (v := v) (by simp), stateAt_snoc _ _ _ (Nat.le_refl _)]
theorem slot_kept {a0 : Act} {ps : List (Oper × Value)} {t : Nat} : ∀ (d i : Nat), (∀ (p : Nat) (o : Oper) (v : Value), i ≤ p → p < i + d → ps[p]? = some (o, v) → o.dst ≠ some t) → (stateAt a0 ps (i + d)).tmps[t]? = (stateAt a0 ps i).tmps[t]?
  | 0, i, _ => rfl
  | d + 1, i, h => by
    have h1 := slot_kept (a0 := a0) d i (fun p o v h2 h3 => h p o v h2 (by omega))
    rw [← h1]
    cases hk : ps[i + d]? with
    | none =>
      have : ps.length ≤ i + d := by simpa using hk
      have e : stateAt a0 ps (i + (d + 1)) = stateAt a0 ps (i + d) := by
        rw [show i + (d + 1) = i + d + 1 from by omega]
        simp [stateAt, List.take_of_length_le this, List.take_of_length_le (Nat.le_succ_of_le this)]
      rw [e]
    | some x =>
      obtain ⟨o, v⟩ := x
      rw [show i + (d + 1) = i + d + 1 from by omega, stateAt_succ hk, put_tmps_ne (h _ o v (by omega) (by omega) hk)]
section
variable {ops : Array Oper} {eff : Oper → Bool} {ord : List Nat} {a0 : Act} {ps : List (Oper × Value)} {S : World → Prop} {listed : Array Bool} {a : Act}
theorem ord_inj (F : SeqFacts ops eff ord) {p q i : Nat} (hp : ord[p]? = some i) (hq : ord[q]? = some i) : p = q := by
  rcases Nat.lt_trichotomy p q with h | h | h
  · obtain ⟨j, oj, hj, _, _, _, hpair⟩ := F.at_ q (List.getElem?_eq_some_iff.1 hq).1
    obtain ⟨i', oi, hi, _, hne, _⟩ := hpair p h
    rw [hp] at hi; cases hi
    rw [hq] at hj; cases hj
    exact absurd rfl hne
  · exact h
  · obtain ⟨j, oj, hj, _, _, _, hpair⟩ := F.at_ p (List.getElem?_eq_some_iff.1 hp).1
    obtain ⟨i', oi, hi, _, hne, _⟩ := hpair q h
    rw [hq] at hi; cases hi
    rw [hp] at hj; cases hj
    exact absurd rfl hne
theorem mem_take_pos {q i : Nat} (h : i ∈ ord.take q) : ∃ p, p < q ∧ ord[p]? = some i := by
  obtain ⟨p, hp⟩ := List.getElem?_of_mem h
  rw [List.getElem?_take] at hp
  split at hp
  · exact ⟨p, by assumption, hp⟩
  · cases hp
theorem mid_same (F : SeqFacts ops eff ord) (M : Mid P ops eff ord a0 ps S listed a) {q j : Nat} {o : Oper} (hq : q ≤ ps.length) (hj : ord[q]? = some j) (ho : ops[j]? = some o) (hu : listed.getD j true = false)
    (he : ∀ e ∈ o.after, Region.binds .any e = true → listed.getD e.on false = true) :
    execOp a.eval o = execOp (stateAt a0 ps q).eval o ∧ Region.wanted o (yielded ops a.tmps) = Region.wanted o (yielded ops (stateAt a0 ps q).tmps) := by
  have hql : q < ord.length := (List.getElem?_eq_some_iff.1 hj).1
  obtain ⟨j', o', hj', ho', hs, _, hpair⟩ := F.at_ q hql
  rw [hj] at hj'; cases hj'
  rw [ho] at ho'; cases ho'
  refine same_exec hs fun t htk => M.slots t q hq fun p op v i hp hi hdp => ?_
  obtain ⟨i', hi', hoi'⟩ := M.pss p op v hp
  rw [hi] at hi'; cases hi'
  constructor
  · intro hl
    rcases Nat.lt_trichotomy p q with h4 | h4 | h4
    · exact h4
    · subst h4
      rw [hi] at hj; cases hj
      rw [hu] at hl; cases hl
    · exfalso
      have hpl : p < ord.length := (List.getElem?_eq_some_iff.1 hi).1
      obtain ⟨i2, op2, hi2, hop2, _, _, hpair2⟩ := F.at_ p hpl
      rw [hi] at hi2; cases hi2
      rw [hoi'] at hop2; cases hop2
      obtain ⟨j2, o2, hj2, ho2, _, hap, _⟩ := hpair2 q h4
      rw [hj] at hj2; cases hj2
      rw [ho] at ho2; cases ho2
      rcases hap with h6 | ⟨e, hem, hb, heq⟩
      · exact (Oper.apart_spec h6).2.2 t hdp htk
      · have := M.down i op hoi' hl e hem hb
        rw [heq] at this
        have hjl : j < listed.size := by rw [M.size]; exact (Array.getElem?_eq_some_iff.1 ho).1
        rw [getD_both hjl, hu] at this
        cases this
  · intro hpq
    obtain ⟨i2, o2, hi2, ho2, _, hap, _⟩ := hpair p hpq
    rw [hi] at hi2; cases hi2
    rw [hoi'] at ho2; cases ho2
    rcases hap with h6 | ⟨e, hem, hb, heq⟩
    · exact absurd htk ((Oper.apart_spec h6).1 t hdp)
    · have := he e hem hb
      rw [heq] at this
      have hil : i < listed.size := by rw [M.size]; exact (Array.getElem?_eq_some_iff.1 hoi').1
      rwa [getD_both hil] at this
theorem mid_put (F : SeqFacts ops eff ord) (M : Mid P ops eff ord a0 ps S listed a) {q j : Nat} {o : Oper} {v : Value} (hp : ps[q]? = some (o, v)) (hj : ord[q]? = some j) (hu : listed.getD j true = false)
    (he : ∀ e ∈ o.after, Region.binds .any e = true → listed.getD e.on false = true) : Mid P ops eff ord a0 ps S (listed.setIfInBounds j true) (a.put o.dst v) := by
  obtain ⟨j', hj', ho⟩ := M.pss q o v hp
  rw [hj] at hj'; cases hj'
  have hql : q < ps.length := (List.getElem?_eq_some_iff.1 hp).1
  have hjl : j < listed.size := by rw [M.size]; exact (Array.getElem?_eq_some_iff.1 ho).1
  refine ⟨by simpa using M.size, M.plen, fun i oi hi hl e hem hb => ?_, by rw [put_defers]; exact M.defers, by rw [put_size]; exact M.tsize, fun r i hr hi => ?_, M.pss, fun p op u i hpp hi hef => ?_, M.quiet, fun t k hk hw => ?_⟩
  · rw [getD_set hjl] at hl ⊢
    split
    · rfl
    · by_cases hij : i = j
      · subst hij
        rw [ho] at hi; cases hi
        exact he e hem hb
      · rw [if_neg hij] at hl
        exact M.down i oi hi hl e hem hb
  · rw [getD_set hjl, if_neg]
    · exact M.ahead r i hr hi
    · rintro rfl
      have := ord_inj F hi hj
      omega
  · rw [getD_set hjl]
    split
    · rfl
    · exact M.done p op u i hpp hi hef
  · by_cases hdt : o.dst = some t
    · have hqk : q < k := (hw q o v j hp hj hdt).1 (by rw [getD_set hjl, if_pos rfl])
      have hno := slot_kept (a0 := a0) (ps := ps) (t := t) (k - (q + 1)) (q + 1) (fun p op u h1 h2 hpp hdp => by
        obtain ⟨i, hi, hoi⟩ := M.pss p op u hpp
        have hli := (hw p op u i hpp hi hdp).2 (by omega)
        have hij : i ≠ j := by
          rintro rfl
          have := ord_inj F hi hj
          omega
        rw [getD_set hjl, if_neg hij] at hli
        have hpl : p < ord.length := (List.getElem?_eq_some_iff.1 hi).1
        obtain ⟨i2, op2, hi2, hop2, _, _, hpair2⟩ := F.at_ p hpl
        rw [hi] at hi2; cases hi2
        rw [hoi] at hop2; cases hop2
        obtain ⟨j2, o2, hj2, ho2, _, hap, _⟩ := hpair2 q (by omega)
        rw [hj] at hj2; cases hj2
        rw [ho] at ho2; cases ho2
        rcases hap with h6 | ⟨e, hem, hb, heq⟩
        · exact (Oper.apart_spec h6).2.1 t hdt hdp
        · have := M.down i op hoi hli e hem hb
          rw [heq, getD_both hjl, hu] at this
          cases this)
      rw [show q + 1 + (k - (q + 1)) = k from by omega] at hno
      rw [hno, stateAt_succ hp, hdt]
      exact put_tmps_eq (M.tsize.trans (stateAt_facts a0 ps q).1.symm)
    · rw [put_tmps_ne hdt]
      refine M.slots t k hk fun p op u i hpp hi hdp => ?_
      rw [← hw p op u i hpp hi hdp, getD_set hjl]
      by_cases hij : i = j
      · subst hij
        have hpq := ord_inj F hi hj
        subst hpq
        rw [hp] at hpp; cases hpp
        exact absurd hdp hdt
      · rw [if_neg hij]
theorem mid_more (F : SeqFacts ops eff ord) (M : Mid P ops eff ord a0 ps S listed a) {j : Nat} {o : Oper} {v : Value} (hj : ord[ps.length]? = some j) (ho : ops[j]? = some o) (hef : eff o = false) (hst : Still P ops S o v (stateAt a0 ps ps.length)) :
    Mid P ops eff ord a0 (ps ++ [(o, v)]) S listed a := by
  have hcase : ∀ (p : Nat) (op : Oper) (u : Value), (ps ++ [(o, v)])[p]? = some (op, u) → (p < ps.length ∧ ps[p]? = some (op, u)) ∨ (p = ps.length ∧ op = o ∧ u = v) := by
    intro p op u h
    rcases Nat.lt_trichotomy p ps.length with h1 | h1 | h1
    · rw [List.getElem?_append_left h1] at h; exact .inl ⟨h1, h⟩
    · subst h1
      simp at h
      exact .inr ⟨rfl, h.1.symm, h.2.symm⟩
    · rw [List.getElem?_eq_none (by simp; omega)] at h; cases h
  have hplt : ps.length < ord.length := (List.getElem?_eq_some_iff.1 hj).1
  refine ⟨M.size, by rw [List.length_append]; exact hplt, M.down, M.defers, M.tsize, fun q i hq hi => M.ahead q i (by simp at hq; omega) hi, fun p op u h => ?_, fun p op u i h hi he => ?_, fun p op u h he => ?_, fun t k hk hw => ?_⟩
  · rcases hcase p op u h with ⟨_, h1⟩ | ⟨rfl, rfl, rfl⟩
    · exact M.pss p op u h1
    · exact ⟨j, hj, ho⟩
  · rcases hcase p op u h with ⟨_, h1⟩ | ⟨rfl, rfl, rfl⟩
    · exact M.done p op u i h1 hi he
    · rw [hef] at he; cases he
  · rcases hcase p op u h with ⟨h0, h1⟩ | ⟨rfl, rfl, rfl⟩
    · rw [stateAt_snoc _ _ _ (Nat.le_of_lt h0)]
      exact M.quiet p op u h1 he
    · rw [stateAt_snoc _ _ _ (Nat.le_refl _)]
      exact hst
  · have hu : listed.getD j true = false := M.ahead ps.length j (Nat.le_refl _) hj
    by_cases hk2 : k ≤ ps.length
    · rw [stateAt_snoc _ _ _ hk2]
      exact M.slots t k hk2 fun p op u i hp hi hd => hw p op u i (by rw [List.getElem?_append_left (List.getElem?_eq_some_iff.1 hp).1]; exact hp) hi hd
    · have hk3 : k = ps.length + 1 := by simp at hk; omega
      subst hk3
      have hnd : o.dst ≠ some t := fun hd => by
        have := (hw ps.length o v j (by simp) hj hd).2 (by omega)
        rw [hu] at this; cases this
      rw [stateAt_last, put_tmps_ne hnd]
      refine M.slots t ps.length (Nat.le_refl _) fun p op u i hp hi hd => ?_
      have hpl := (List.getElem?_eq_some_iff.1 hp).1
      rw [hw p op u i (by rw [List.getElem?_append_left hpl]; exact hp) hi hd]
      omega
theorem Still.stronger {S' : World → Prop} {o : Oper} {v : Value} (h : Still P ops S o v a) (hs : ∀ W, S' W → S W) : Still P ops S' o v a := h.imp (fun ⟨h1, h2⟩ => ⟨h1, fun w hw => h2 w (hs w hw)⟩) id
theorem mid_deed (F : SeqFacts ops eff ord) (M : Mid P ops eff ord a0 ps S listed a) {j : Nat} {o : Oper} {v : Value} {S' : World → Prop} (hj : ord[ps.length]? = some j) (ho : ops[j]? = some o) (hef : eff o = true)
    (he : ∀ e ∈ o.after, Region.binds .any e = true → listed.getD e.on false = true) (hs : ∀ W, S' W → S W) :
    Mid P ops eff ord a0 (ps ++ [(o, v)]) S' (listed.setIfInBounds j true) (a.put o.dst v) := by
  have hcase : ∀ (p : Nat) (op : Oper) (u : Value), (ps ++ [(o, v)])[p]? = some (op, u) → (p < ps.length ∧ ps[p]? = some (op, u)) ∨ (p = ps.length ∧ op = o ∧ u = v) := by
    intro p op u h
    rcases Nat.lt_trichotomy p ps.length with h1 | h1 | h1
    · rw [List.getElem?_append_left h1] at h; exact .inl ⟨h1, h⟩
    · subst h1
      simp at h
      exact .inr ⟨rfl, h.1.symm, h.2.symm⟩
    · rw [List.getElem?_eq_none (by simp; omega)] at h; cases h
  have hplt : ps.length < ord.length := (List.getElem?_eq_some_iff.1 hj).1
  have hu : listed.getD j true = false := M.ahead ps.length j (Nat.le_refl _) hj
  have hjl : j < listed.size := by rw [M.size]; exact (Array.getElem?_eq_some_iff.1 ho).1
  refine ⟨by simpa using M.size, by rw [List.length_append]; exact hplt, fun i oi hi hl e hem hb => ?_, by rw [put_defers]; exact M.defers, by rw [put_size]; exact M.tsize, fun q i hq hi => ?_, fun p op u h => ?_, fun p op u i h hi hf => ?_, fun p op u h hf => ?_, fun t k hk hw => ?_⟩
  · rw [getD_set hjl] at hl ⊢
    split
    · rfl
    · by_cases hij : i = j
      · subst hij
        rw [ho] at hi; cases hi
        exact he e hem hb
      · rw [if_neg hij] at hl
        exact M.down i oi hi hl e hem hb
  · simp at hq
    rw [getD_set hjl, if_neg]
    · exact M.ahead q i (by omega) hi
    · rintro rfl
      have := ord_inj F hi hj
      omega
  · rcases hcase p op u h with ⟨_, h1⟩ | ⟨rfl, rfl, rfl⟩
    · exact M.pss p op u h1
    · exact ⟨j, hj, ho⟩
  · rw [getD_set hjl]
    split
    · rfl
    · rcases hcase p op u h with ⟨_, h1⟩ | ⟨rfl, rfl, rfl⟩
      · exact M.done p op u i h1 hi hf
      · rw [hj] at hi; cases hi
        rename_i hne
        exact absurd rfl hne
  · rcases hcase p op u h with ⟨h0, h1⟩ | ⟨rfl, rfl, rfl⟩
    · rw [stateAt_snoc _ _ _ (Nat.le_of_lt h0)]
      exact (M.quiet p op u h1 hf).stronger hs
    · rw [hef] at hf; cases hf
  · have hsl : ∀ (p : Nat) (op : Oper) (u : Value) (i : Nat), ps[p]? = some (op, u) → ord[p]? = some i → i ≠ j := fun p op u i hp hi => by
      rintro rfl
      have := ord_inj F hi hj
      have := (List.getElem?_eq_some_iff.1 hp).1
      omega
    by_cases hk2 : k ≤ ps.length
    · rw [stateAt_snoc _ _ _ hk2]
      have hnd : o.dst ≠ some t := fun hd => by
        have := (hw ps.length o v j (by simp) hj hd).1 (by rw [getD_set hjl, if_pos rfl])
        omega
      rw [put_tmps_ne hnd]
      refine M.slots t k hk2 fun p op u i hp hi hd => ?_
      rw [← hw p op u i (by rw [List.getElem?_append_left (List.getElem?_eq_some_iff.1 hp).1]; exact hp) hi hd, getD_set hjl, if_neg (hsl p op u i hp hi)]
    · have hk3 : k = ps.length + 1 := by simp at hk; omega
      subst hk3
      rw [stateAt_last]
      by_cases hd : o.dst = some t
      · rw [hd]
        exact put_tmps_eq (M.tsize.trans (stateAt_facts a0 ps ps.length).1.symm)
      · rw [put_tmps_ne hd, put_tmps_ne hd]
        refine M.slots t ps.length (Nat.le_refl _) fun p op u i hp hi hdp => ?_
        have hpl := (List.getElem?_eq_some_iff.1 hp).1
        have h9 := hw p op u i (by rw [List.getElem?_append_left hpl]; exact hp) hi hdp
        rw [getD_set hjl, if_neg (hsl p op u i hp hi)] at h9
        rw [h9]
        omega
theorem seq_listed (F : SeqFacts ops eff ord) (hs : listed.size = ops.size) (h : Region.ready .any ops listed = []) : ∀ j, listed.getD j true = true := by
  have key : ∀ (q j : Nat), ord[q]? = some j → listed.getD j true = true := by
    intro q
    induction q using Nat.strongRecOn with
    | _ q ih =>
      intro j hj
      cases hl : listed.getD j true with
      | true => rfl
      | false =>
        exfalso
        have hql : q < ord.length := (List.getElem?_eq_some_iff.1 hj).1
        obtain ⟨j', o, hj', ho, _, hed, _⟩ := F.at_ q hql
        rw [hj] at hj'; cases hj'
        have hjl : j < ops.size := (Array.getElem?_eq_some_iff.1 ho).1
        have hm : j ∈ Region.ready .any ops listed := by
          unfold Region.ready
          simp only [List.mem_filter, List.mem_range, Bool.and_eq_true, Bool.not_eq_true']
          refine ⟨hjl, hl, ?_⟩
          rw [ho]
          simp only [Option.map_some, Option.getD_some, Array.all_eq_true_iff_forall_mem, Bool.or_eq_true, Bool.not_eq_true']
          intro e hem
          cases hb : Region.binds .any e with
          | false => exact .inl rfl
          | true =>
            obtain ⟨p, hp, hpo⟩ := mem_take_pos (hed e hem hb)
            have h2 := ih p hp e.on hpo
            have hpl : p < ord.length := (List.getElem?_eq_some_iff.1 hpo).1
            obtain ⟨i', o', hi', ho', _⟩ := F.at_ p hpl
            rw [hpo] at hi'; cases hi'
            have h3 : e.on < listed.size := by rw [hs]; exact (Array.getElem?_eq_some_iff.1 ho').1
            rw [getD_both h3]
            exact .inr h2
        rw [h] at hm
        cases hm
  intro j
  rcases Nat.lt_or_ge j listed.size with hlt | hge
  · obtain ⟨q, hq⟩ := List.getElem?_of_mem (F.mem j (by omega))
    exact key q j hq
  · simp [Array.getD, Nat.not_lt.2 hge]
theorem seq_any (F : SeqFacts ops eff ord) {R : Act → World → Prop} {Q : Exit → Act → World → Prop} (hQ : ∀ a w, R a w → Q .normal a w) :
    ∀ (fuel : Nat) (ps : List (Oper × Value)) (rest : List Oper) (S : World → Prop) (listed : Array Bool) (a : Act) (w : World), Mid P ops eff ord a0 ps S listed a →
      (∀ q : Nat, ps.length ≤ q → ((ord[q]?).bind (ops[·]?)) = rest[q - ps.length]?) → S w → wpSeq P ops eff R rest S (stateAt a0 ps ps.length) w → listed.toList.count false ≤ fuel →
      wpAny P .any ops Q fuel listed a w := by
  -- the quiet operations that stand next are reckoned at once
  have adv : ∀ (rest : List Oper) (ps : List (Oper × Value)) (S : World → Prop) (listed : Array Bool) (a : Act) (w : World), Mid P ops eff ord a0 ps S listed a →
      (∀ q : Nat, ps.length ≤ q → ((ord[q]?).bind (ops[·]?)) = rest[q - ps.length]?) → wpSeq P ops eff R rest S (stateAt a0 ps ps.length) w →
      ∃ ps' rest', Mid P ops eff ord a0 ps' S listed a ∧ (∀ q : Nat, ps'.length ≤ q → ((ord[q]?).bind (ops[·]?)) = rest'[q - ps'.length]?) ∧ wpSeq P ops eff R rest' S (stateAt a0 ps' ps'.length) w ∧ (rest' = [] ∨ ∃ o r, rest' = o :: r ∧ eff o = true) := by
    intro rest
    induction rest with
    | nil => intro ps S listed a w M hr hw; exact ⟨ps, [], M, hr, hw, .inl rfl⟩
    | cons o rest ih =>
      intro ps S listed a w M hr hw
      cases hef : eff o with
      | true => exact ⟨ps, o :: rest, M, hr, hw, .inr ⟨o, rest, rfl, hef⟩⟩
      | false =>
        rcases hw with ⟨_, v, hst, hw⟩ | ⟨h, _⟩
        · have h0 := hr ps.length (Nat.le_refl _)
          rw [Nat.sub_self] at h0
          simp only [List.getElem?_cons_zero] at h0
          obtain ⟨j, hj, ho⟩ := Option.bind_eq_some_iff.1 h0
          refine ih (ps ++ [(o, v)]) S listed a w (mid_more F M hj ho hef hst) (fun q hq => ?_) ?_
          · simp only [List.length_append, List.length_singleton] at hq ⊢
            rw [hr q (by omega), show q - ps.length = (q - (ps.length + 1)) + 1 from by omega, List.getElem?_cons_succ]
          · rw [List.length_append, List.length_singleton, stateAt_last]
            exact hw
        · rw [hef] at h; cases h
  have fin : ∀ (ps : List (Oper × Value)) (rest : List Oper) (S : World → Prop) (listed : Array Bool) (a : Act) (w : World), Mid P ops eff ord a0 ps S listed a →
      (∀ q : Nat, ps.length ≤ q → ((ord[q]?).bind (ops[·]?)) = rest[q - ps.length]?) → wpSeq P ops eff R rest S (stateAt a0 ps ps.length) w → (∀ j, listed.getD j true = true) → Q .normal a w := by
    intro ps rest S listed a w M hr hw hall
    have hpl : ps.length = ord.length := by
      rcases Nat.lt_or_ge ps.length ord.length with h | h
      · have hj := List.getElem?_eq_getElem h
        have := M.ahead ps.length _ (Nat.le_refl _) hj
        rw [hall] at this; cases this
      · have := M.plen
        omega
    have hrest : rest = [] := by
      cases rest with
      | nil => rfl
      | cons o r =>
        have h0 := hr ps.length (Nat.le_refl _)
        rw [Nat.sub_self, List.getElem?_eq_none (by omega)] at h0
        simp at h0
    subst hrest
    have ha : a = stateAt a0 ps ps.length := by
      obtain ⟨ta, da⟩ := a
      have e1 : ta = (stateAt a0 ps ps.length).tmps := Array.ext_getElem? fun t => M.slots t ps.length (Nat.le_refl _) fun p o v j hp hj hd => by
        simp only [hall j, true_iff]
        exact (List.getElem?_eq_some_iff.1 hp).1
      have e2 : da = (stateAt a0 ps ps.length).defers := M.defers.trans (stateAt_facts _ _ _).2.symm
      rw [e1, e2]
    rw [ha]
    exact hQ _ _ hw
  intro fuel
  induction fuel with
  | zero =>
    intro ps rest S listed a w M hr hS hw hc
    have hall : ∀ j, listed.getD j true = true := by
      intro j
      rcases Nat.lt_or_ge j listed.size with hlt | hge
      · cases hl : listed.getD j true with
        | true => rfl
        | false =>
          have hv : listed[j] = false := by simpa [Array.getD, hlt] using hl
          have hm : false ∈ listed.toList := by
            rw [← hv]
            exact Array.mem_toList_iff.2 (Array.getElem_mem hlt)
          have := List.count_pos_iff.2 hm
          omega
      · simp [Array.getD, Nat.not_lt.2 hge]
    refine ⟨?_, fin ps rest S listed a w M hr hw hall⟩
    rcases hrd : Region.ready .any ops listed with _ | ⟨i, r⟩
    · rfl
    · have := (ready_spec (ops := ops) (listed := listed) (i := i) (by rw [hrd]; simp)).1
      rw [hall] at this
      cases this
  | succ fuel ih =>
    intro ps0 rest0 S listed a w M0 hr0 hS hw0 hc
    obtain ⟨ps, rest, M, hr, hw, hnext⟩ := adv rest0 ps0 S listed a w M0 hr0 hw0
    refine ⟨fun hrd => fin ps rest S listed a w M hr hw (seq_listed F M.size hrd), fun j hjr => ?_⟩
    obtain ⟨hu, o, ho, he⟩ := ready_spec hjr
    have hjl : j < ops.size := (Array.getElem?_eq_some_iff.1 ho).1
    obtain ⟨q, hq⟩ := List.getElem?_of_mem (F.mem j hjl)
    have hc' := count_set hu hc
    unfold wpOp
    simp only [ho]
    rcases Nat.lt_or_ge q ps.length with hlt | hge
    · -- one of those reckoned
      have hp : ∃ x, ps[q]? = some x := ⟨_, List.getElem?_eq_getElem hlt⟩
      obtain ⟨⟨o', v⟩, hp⟩ := hp
      obtain ⟨j', hj', ho'⟩ := M.pss q o' v hp
      rw [hq] at hj'; cases hj'
      rw [ho] at ho'; cases ho'
      have hef : eff o = false := by
        cases hef : eff o with
        | false => rfl
        | true =>
          have := M.done q o v j hp hq hef
          rw [hu] at this; cases this
      have M' := mid_put F M hp hq hu he
      have hst := M.quiet q o v hp hef
      obtain ⟨e1, e2⟩ := mid_same F M (Nat.le_of_lt hlt) hq ho hu he
      rcases hst with ⟨h1, h2⟩ | ⟨h1, rfl⟩
      · rw [if_pos (by rw [e2]; exact h1)]
        refine .inl ?_
        unfold Oper.wp
        rw [e1, h2 w hS]
        exact ih ps rest S _ _ w M' hr hS hw hc'
      · rw [if_neg (by rw [e2, h1]; simp)]
        exact ih ps rest S _ _ w M' hr hS hw hc'
    · -- the deed that stands next
      have hql : q < ord.length := (List.getElem?_eq_some_iff.1 hq).1
      rcases hnext with rfl | ⟨o', r, rfl, hef⟩
      · have h0 := hr q hge
        rw [hq] at h0
        simp [ho] at h0
      · have h0 := hr ps.length (Nat.le_refl _)
        rw [Nat.sub_self] at h0
        simp only [List.getElem?_cons_zero] at h0
        obtain ⟨i, hi, hoi⟩ := Option.bind_eq_some_iff.1 h0
        have hqe : q = ps.length := by
          rcases Nat.lt_or_ge ps.length q with h | h
          · exfalso
            obtain ⟨j', oj', hj', hoj', _, _, hpair⟩ := F.at_ q hql
            rw [hq] at hj'; cases hj'
            obtain ⟨i', oi', hi', hoi', _, _, hbl⟩ := hpair ps.length h
            rw [hi] at hi'; cases hi'
            rw [hoi] at hoi'; cases hoi'
            have h5 := below_listed M.down M.size ops.size j (fun oj hoj => by rw [ho] at hoj; cases hoj; exact he) i (hbl hef)
            have hil : i < listed.size := by rw [M.size]; exact (Array.getElem?_eq_some_iff.1 hoi).1
            rw [getD_both hil, M.ahead ps.length i (Nat.le_refl _) hi] at h5
            cases h5
          · omega
        subst hqe
        rw [hq] at hi; cases hi
        rw [ho] at hoi; cases hoi
        rcases hw with ⟨h, _⟩ | ⟨_, hwant, hdo⟩
        · rw [hef] at h; cases h
        · obtain ⟨e1, e2⟩ := mid_same F M (Nat.le_refl _) hq ho hu he
          rw [if_pos (by rw [e2]; exact hwant)]
          refine .inl ?_
          rw [← e1] at hdo
          refine hdo.wp fun v w' ⟨S', hS', himp, hw'⟩ => ?_
          refine ih (ps ++ [(o, v)]) r S' _ _ w' (mid_deed F M hq ho hef he himp) (fun k hk => ?_) hS' ?_ hc'
          · simp only [List.length_append, List.length_singleton] at hk ⊢
            rw [hr k (by omega), show k - ps.length = (k - (ps.length + 1)) + 1 from by omega, List.getElem?_cons_succ]
          · rw [List.length_append, List.length_singleton, stateAt_last]
            exact hw'
end
def byNum (l : List Oper) : List Nat → List Oper
  | [] => []
  | i :: r => match l[i]? with
    | some o => o :: byNum l r
    | none => byNum l r
theorem byNum_at {l : List Oper} : ∀ (ord : List Nat), (∀ i ∈ ord, i < l.length) → ∀ q : Nat, ((ord[q]?).bind (l[·]?)) = (byNum l ord)[q]?
  | [], _, q => by simp [byNum]
  | i :: r, h, q => by
    have hi := h i List.mem_cons_self
    have e : l[i]? = some l[i] := List.getElem?_eq_getElem hi
    unfold byNum
    rw [e]
    cases q with
    | zero => simp [e]
    | succ q => simpa using byNum_at r (fun j hj => h j (List.mem_cons_of_mem _ hj)) q
theorem wp_region_seq {id : Nat} {a : Act} {w : World} {Q : Exit → Act → World → Prop} (eff : Oper → Bool) (ord : List Nat) (S : World → Prop) {l : List Oper} (hm : P.follows .mixedOrders = true) (hok : seqChk l.toArray eff ord = true) (hS : S w.drew)
    (h : wpSeq P l.toArray eff (fun a' w' => Q .normal a' w') (byNum l ord) S a w.drew) : (Code.region id l.toArray true).wp P Q a w := by
  have F := seqChk_spec hok
  refine wp_region_any hm ?_
  have hmem : ∀ i ∈ ord, i < l.length := fun i hi => by
    obtain ⟨q, hq⟩ := List.getElem?_of_mem hi
    obtain ⟨j, oj, hj, hoj, _⟩ := F.at_ q (List.getElem?_eq_some_iff.1 hq).1
    rw [hq] at hj; cases hj
    simpa using (Array.getElem?_eq_some_iff.1 hoj).1
  refine seq_any (a0 := a) F (R := fun a' w' => Q .normal a' w') (fun _ _ h => h) _ [] (byNum l ord) S _ a _ ?_ (fun q _ => ?_) hS (by simpa [stateAt] using h) (Nat.le_trans List.count_le_length (by simp))
  · refine ⟨by simp, by simp, fun j oj hj hl => ?_, rfl, rfl, fun q j _ hj => ?_, by simp, by simp, by simp, fun t k hk _ => ?_⟩
    · have hlt : j < l.toArray.size := (Array.getElem?_eq_some_iff.1 hj).1
      have hlt' : j < l.length := by simpa using hlt
      simp [Array.getD, hlt'] at hl
    · have hjl := hmem j (List.mem_of_getElem? hj)
      simp [Array.getD, hjl]
    · simp [stateAt]
  · have := byNum_at (l := l) ord hmem q
    simpa using this
def deed (o : Oper) : Bool := match o.op with
  | .call c => match c.callee with
    | .builtin b => match b with
      | .append => true
      | .copy => true
      | _ => false
    | _ => true
  | .store .. => true
  | .alloc .. => true
  | .box .. => true
  | .buildSlice .. => true
  | .makeSlice .. => true
  | .makeFunc .. => true
  | .makeMap .. => true
  | _ => false
section
variable {ops : Array Oper} {eff : Oper → Bool} {R : Act → World → Prop} {S : World → Prop} {a : Act} {w : World} {o : Oper} {rest : List Oper}
theorem seq_nil (h : R a w) : wpSeq P ops eff R [] S a w := h
theorem seq_skip (he : eff o = false) (hw : Region.wanted o (yielded ops a.tmps) = false) (hr : wpSeq P ops eff R rest S (a.put o.dst undef) w) : wpSeq P ops eff R (o :: rest) S a w := .inl ⟨he, undef, .inr ⟨hw, rfl⟩, hr⟩
theorem seq_val {v : Value} (he : eff o = false) (hw : Region.wanted o (yielded ops a.tmps) = true) (h : ∀ w, S w → (execOp a.eval o).run P w = .ok (.value v) w) (hr : wpSeq P ops eff R rest S (a.put o.dst v) w) : wpSeq P ops eff R (o :: rest) S a w :=
  .inl ⟨he, v, .inl ⟨hw, h⟩, hr⟩
theorem seq_call {f : FuncId} {args : Array Value} (he : eff o = true) (hw : Region.wanted o (yielded ops a.tmps) = true) (hf : (execOp a.eval o).run P w = .ok (.enter f args) w)
    (h : Calls P f args w fun e w' => ∃ v, e = .returned v ∧ ∃ S' : World → Prop, S' w' ∧ (∀ W, S' W → S W) ∧ wpSeq P ops eff R rest S' (a.put o.dst v) w') : wpSeq P ops eff R (o :: rest) S a w :=
  .inr ⟨he, hw, by unfold Does; rw [hf]; exact h⟩
theorem seq_deed {v : Value} {w' : World} (he : eff o = true) (hw : Region.wanted o (yielded ops a.tmps) = true) (hf : (execOp a.eval o).run P w = .ok (.value v) w')
    (h : ∃ S' : World → Prop, S' w' ∧ (∀ W, S' W → S W) ∧ wpSeq P ops eff R rest S' (a.put o.dst v) w') : wpSeq P ops eff R (o :: rest) S a w :=
  .inr ⟨he, hw, by unfold Does; rw [hf]; exact h⟩
theorem seq_store {w' : World} (he : eff o = true) (hw : Region.wanted o (yielded ops a.tmps) = true) (hf : (execOp a.eval o).run P w = .ok .skip w')
    (h : ∃ S' : World → Prop, S' w' ∧ (∀ W, S' W → S W) ∧ wpSeq P ops eff R rest S' (a.put o.dst undef) w') : wpSeq P ops eff R (o :: rest) S a w :=
  .inr ⟨he, hw, by unfold Does; rw [hf]; exact h⟩
end
end
/-! ### append of a slice that reads -/
section
open Go.RowKit
variable {P : Program} (w : World)
theorem run_append_of_nil (base : Nat) (t ty e : TypeId) (i : TypeInfo) (size : Nat) (ht : P.underlying t = some (.slice e)) (hi : P.info? e = some i)
    (v : Value) (n : Nat) (xs : List Value) (hown : w.ownsRow base e size v n xs) (c : Nat) : (Builtin.append_ #[t, t] ty #[v, .slice none 0 c]).run P w = .ok v w := by
  rcases hown.2 with ⟨rfl, rfl⟩ | ⟨g, cap, cur, rfl, _, _, hnc, _⟩
  · simp [Builtin.append_, run_underlying ht, sizeOf, typeInfo, hi, Builtin.lenOf, Builtin.firstCells]
  · simp [Builtin.append_, run_underlying ht, sizeOf, typeInfo, hi, Builtin.lenOf, Builtin.firstCells, hnc, storeCells]
theorem run_append_any (base : Nat) (t ty e : TypeId) (i : TypeInfo) (z : Value) (size bytes : Nat) (ht : P.underlying t = some (.slice e)) (hi : P.info? e = some i) (hz : i.zero = some z)
    (hsize : i.size = size) (hby : i.bytes = bytes) (hzs : z.cells.size = size) (hsz : 0 < size)
    (v : Value) (n : Nat) (xs : List Value) (hown : w.ownsRow base e size v n xs)
    (B : Nat) (A : Option Addr) (m c : Nat) (news : List Value) (hr : Reads w B size A m news) (hm0 : A = none → m = 0) (h1 : ∀ u ∈ news, u.oneCell' = true)
    (h63 : n + m ≤ maxLen) (hbytes : (n + m) * bytes ≤ 140737488355328) (hbase : base ≤ w.heap.size) :
    ∃ v' w', (Builtin.append_ #[t, t] ty #[v, .slice A m c]).run P w = .ok v' w' ∧ w'.ownsRow base e size v' (n + m) (xs ++ news) ∧ w.grownBy w' v.ownBlock := by
  rcases A with _ | ad
  · have hm : m = 0 := hm0 rfl
    subst hm
    have hn : news = [] := List.eq_nil_of_length_eq_zero (by simpa using hr.1)
    subst hn
    exact ⟨v, w, run_append_of_nil w base t ty e i size ht hi v n xs hown c, by simpa using hown, World.grownBy.refl w _⟩
  · have hcells : ∀ j u, news[j]? = some u → w.cell? (ad.add j) = some u := by
      intro j u hu
      rcases Nat.eq_zero_or_pos m with h0 | h0
      · subst h0
        have hn : news = [] := List.eq_nil_of_length_eq_zero (by simpa using hr.1)
        subst hn
        simp at hu
      · obtain ⟨ad', h, _, hc⟩ := hr.2 h0
        injection h with h
        subst h
        exact hc j u hu
    obtain ⟨v', w', hrun, h2, h3, _, _⟩ := run_append_own_at (P := P) w base t ty e i z size bytes ht hi hz hsize hby hzs hsz v n xs hown ad m c news hr.1 hcells h1 h63 hbytes hbase
    exact ⟨v', w', hrun, h2, h3⟩
theorem seq_append {ops : Array Oper} {eff : Oper → Bool} {R : Act → World → Prop} {S : World → Prop} {a : Act} {o : Oper} {rest : List Oper} (he : eff o = true) (hw : Region.wanted o (yielded ops a.tmps) = true) (s x : Operand) (t : TypeId)
    (ho : o.op = .call { callee := .builtin .append, args := #[s, x], argTypes := #[t, t] })
    (base : Nat) (e : TypeId) (i : TypeInfo) (z : Value) (size bytes : Nat) (ht : P.underlying t = some (.slice e)) (hi : P.info? e = some i) (hz : i.zero = some z)
    (hsize : i.size = size) (hby : i.bytes = bytes) (hzs : z.cells.size = size) (hsz : 0 < size)
    (v : Value) (n : Nat) (xs : List Value) (hs : a.eval s = v) (hown : w.ownsRow base e size v n xs)
    (B : Nat) (A : Option Addr) (m c : Nat) (news : List Value) (hx : a.eval x = .slice A m c) (hr : Reads w B size A m news) (hm0 : A = none → m = 0) (h1 : ∀ u ∈ news, u.oneCell' = true)
    (h63 : n + m ≤ maxLen) (hbytes : (n + m) * bytes ≤ 140737488355328) (hbase : base ≤ w.heap.size)
    (h : ∀ A' c' w', w'.ownsRow base e size (.slice A' (n + m) c') (n + m) (xs ++ news) → w.grownBy w' v.ownBlock → ∃ S' : World → Prop, S' w' ∧ (∀ W, S' W → S W) ∧ wpSeq P ops eff R rest S' (a.put o.dst (.slice A' (n + m) c')) w') :
    wpSeq P ops eff R (o :: rest) S a w := by
  obtain ⟨v', w', hrun, h2, h3⟩ := run_append_any (P := P) w base t o.type e i z size bytes ht hi hz hsize hby hzs hsz v n xs hown B A m c news hr hm0 h1 h63 hbytes hbase
  have hv : ∃ A' c', v' = .slice A' (n + m) c' := by
    rcases h2.2 with ⟨rfl, h0⟩ | ⟨g, cap, _, rfl, _⟩
    · exact ⟨none, 0, by rw [h0]⟩
    · exact ⟨_, _, rfl⟩
  obtain ⟨A', c', rfl⟩ := hv
  refine seq_deed (v := .slice A' (n + m) c') (w' := w') he hw ?_ (h A' c' w' h2 h3)
  unfold execOp
  simp only [ho, resolve, invoke, builtin, Sem.run_bind, Sem.run_pure, Result.andThen_ok, List.map_toArray, List.map_cons, List.map_nil, hs, hx, hrun]
end
end Go.Proofs.Ytbeojfhakmbacaa
namespace Go.Proofs.Ytbeojfhakmbacaa
open Go.RowKit
theorem within_c (n a b : Int) (w : World) : Calls Try.prog 63 #[.int .i64 n, .int .i64 a, .int .i64 b] w fun e w' => e = .returned (.bool (wi n a b)) ∧ w = w' := by
  go_enter Try.func63, Try.ntmps63
  go_wp2
  all_goals (go_returns; exact ⟨ret_eq (by first | (simp [wi, *]; done) | (simp [wi, *]; omega)), rfl⟩)
theorem l1In_c (n a b : Int) (w : World) : Calls Try.prog 98 #[.int .i64 n, .int .i64 a, .int .i64 b] w fun e w' => e = .returned (.bool (wi n a b)) ∧ w = w' := by
  go_enter Try.func98, Try.ntmps98
  go_wp2
  all_goals (go_returns; exact ⟨ret_eq (by first | (simp [wi, *]; done) | (simp [wi, *]; omega)), rfl⟩)
theorem size_c (o : Bool) (a b : Int) (w : World) : Calls Try.prog 78 #[.agg #[.bool o, .int .i64 a, .int .i64 b]] w (Gives w (.int .i64 (szOf o))) := by
  cases o
  all_goals
    go_enter Try.func78, Try.ntmps78
    go_wp2
    all_goals (go_returns; exact ⟨ret_eq (by rfl), by go_grown⟩)
theorem l7Size_c (o : Bool) (w : World) : Calls Try.prog 109 #[.bool o] w fun e w' => e = .returned (.int .i64 (szOf o)) ∧ w = w' := by
  cases o
  all_goals
    go_enter Try.func109, Try.ntmps109
    go_wp2
    all_goals (go_returns; exact ⟨ret_eq (by rfl), rfl⟩)
theorem validRep_c (o : Bool) (a b : Int) (w : World) : Calls Try.prog 101 #[.agg #[.bool o, .int .i64 a, .int .i64 b]] w (Gives w (.bool (vR o a b))) := by
  have hs := szOf_two o
  have e1 : IntKind.i64.wrap (szOf o - 1) = szOf o - 1 := IntWalk.i64_in _ (by omega)
  cases h : wi a 0 (szOf o - 1)
  all_goals
    go_enter Try.func101, Try.ntmps101
    go_wp2
    refine wp_region_det (fun w' => w'.cell? ⟨w.heap.size, 0, none⟩ = some (.bool o) ∧ w'.cell? ⟨w.heap.size, 1, none⟩ = some (.int .i64 a) ∧ w'.cell? ⟨w.heap.size, 2, none⟩ = some (.int .i64 b) ∧ Below w.heap.size w w') (by kernel_rfl) (by kernel_rfl) (by first | assumption | (exact hS) | (refine ⟨?_, ?_, ?_, ?_⟩ <;> (first | (simp [go_sem]; done) | (simp [go_sem, *]; done) | (go_grown; done)))) ?_
    repeat (first
      | ((refine wpDet_skip (by rfl) ?_); simp only [Act.put, zp1, zp2, zp3])
      | ((refine wpDet_val (v := ?_) (by rfl) (fun w hS => ?_) ?_); rotate_left; (focus ((try dsimp only at hS); go_simp; (try (with_reducible rfl)); done)); simp only [Act.put, zp1, zp2, zp3])
      | ((refine wpDet_call (v := ?_) (f := ?_) (args := ?_) (by rfl) (fun w => ?_) (fun w hS => ?_) ?_); rotate_left; rotate_left; rotate_left; (focus (go_simp; (constructor <;> (with_reducible rfl)); done)); (focus (first | (go_at_call 78; refine (size_c _ _ _ _).mono ?_; intro e w' h; refine ⟨h.1.trans ?_, keep3 hS h.2⟩; with_reducible rfl) | (go_at_call 63; refine (within_c _ _ _ _).mono ?_; intro e w' h; refine ⟨h.1.trans ?_, h.2 ▸ hS⟩; with_reducible rfl))); simp only [Act.put, zp1, zp2, zp3]))
    refine wpDet_nil ?_
    intro w1 hS
    have hT : w1.cell? ⟨w.heap.size, 0, none⟩ = some (.bool o) ∧ w1.cell? ⟨w.heap.size, 1, none⟩ = some (.int .i64 a) ∧ w1.cell? ⟨w.heap.size, 2, none⟩ = some (.int .i64 b) ∧ Below w.heap.size w w1 := hS
    clear hS
    have hS := hT
    obtain ⟨c0, c1, c2, hB⟩ := hT
    go_wp2
    go_ret
    exact ⟨ret_eq (by simp [vR, h]), hB⟩
theorem l7Report_c (o : Bool) (a b : Int) (w : World) : Calls Try.prog 120 #[.agg #[.bool o, .int .i64 a, .int .i64 b]] w (Gives w (.bool (vR o a b))) := by
  have hs := szOf_two o
  have e1 : IntKind.i64.wrap (szOf o - 1) = szOf o - 1 := IntWalk.i64_in _ (by omega)
  cases h : wi a 0 (szOf o - 1)
  all_goals
    go_enter Try.func120, Try.ntmps120
    go_wp2
    refine wp_region_det (fun w' => w'.cell? ⟨w.heap.size, 0, none⟩ = some (.bool o) ∧ w'.cell? ⟨w.heap.size, 1, none⟩ = some (.int .i64 a) ∧ w'.cell? ⟨w.heap.size, 2, none⟩ = some (.int .i64 b) ∧ Below w.heap.size w w') (by kernel_rfl) (by kernel_rfl) (by first | assumption | (exact hS) | (refine ⟨?_, ?_, ?_, ?_⟩ <;> (first | (simp [go_sem]; done) | (simp [go_sem, *]; done) | (go_grown; done)))) ?_
    repeat (first
      | ((refine wpDet_skip (by rfl) ?_); simp only [Act.put, zp1, zp2, zp3])
      | ((refine wpDet_val (v := ?_) (by rfl) (fun w hS => ?_) ?_); rotate_left; (focus ((try dsimp only at hS); go_simp; (try (with_reducible rfl)); done)); simp only [Act.put, zp1, zp2, zp3])
      | ((refine wpDet_call (v := ?_) (f := ?_) (args := ?_) (by rfl) (fun w => ?_) (fun w hS => ?_) ?_); rotate_left; rotate_left; rotate_left; (focus (go_simp; (constructor <;> (with_reducible rfl)); done)); (focus (first | (go_at_call 109; refine (l7Size_c _ _).mono ?_; intro e w' h; refine ⟨h.1.trans ?_, h.2 ▸ hS⟩; with_reducible rfl) | (go_at_call 98; refine (l1In_c _ _ _ _).mono ?_; intro e w' h; refine ⟨h.1.trans ?_, h.2 ▸ hS⟩; with_reducible rfl))); simp only [Act.put, zp1, zp2, zp3]))
    refine wpDet_nil ?_
    intro w1 hS
    have hT : w1.cell? ⟨w.heap.size, 0, none⟩ = some (.bool o) ∧ w1.cell? ⟨w.heap.size, 1, none⟩ = some (.int .i64 a) ∧ w1.cell? ⟨w.heap.size, 2, none⟩ = some (.int .i64 b) ∧ Below w.heap.size w w1 := hS
    clear hS
    have hS := hT
    obtain ⟨c0, c1, c2, hB⟩ := hT
    go_wp2
    go_ret
    exact ⟨ret_eq (by simp [vR, h]), hB⟩
theorem isMinute_c (n : Int) (w : World) : Calls Try.prog 61 #[.int .i64 n] w fun e w' => e = .returned (.bool (wi n 0 9999)) ∧ w = w' := by
  go_enter Try.func61, Try.ntmps61
  go_wp2_with (first | (go_at_call 63; refine (within_c _ _ _ _).mono ?_; rintro e w1 ⟨rfl, rfl⟩))
  all_goals (go_returns; exact ⟨ret_eq (by rfl), rfl⟩)
theorem isAddress_c (n : Int) (w : World) : Calls Try.prog 62 #[.int .i64 n] w fun e w' => e = .returned (.bool (wi n 1 65535)) ∧ w = w' := by
  go_enter Try.func62, Try.ntmps62
  go_wp2_with (first | (go_at_call 63; refine (within_c _ _ _ _).mono ?_; rintro e w1 ⟨rfl, rfl⟩))
  all_goals (go_returns; exact ⟨ret_eq (by rfl), rfl⟩)
theorem l9Minute_c (n : Int) (w : World) : Calls Try.prog 59 #[.int .i64 n] w fun e w' => e = .returned (.bool (wi n 0 9999)) ∧ w = w' := by
  go_enter Try.func59, Try.ntmps59
  go_wp2_with (first | (go_at_call 98; refine (l1In_c _ _ _ _).mono ?_; rintro e w1 ⟨rfl, rfl⟩))
  all_goals (go_returns; exact ⟨ret_eq (by rfl), rfl⟩)
theorem l5Address_c (n : Int) (w : World) : Calls Try.prog 97 #[.int .i64 n] w fun e w' => e = .returned (.bool (wi n 1 65535)) ∧ w = w' := by
  go_enter Try.func97, Try.ntmps97
  go_wp2_with (first | (go_at_call 98; refine (l1In_c _ _ _ _).mono ?_; rintro e w1 ⟨rfl, rfl⟩))
  all_goals (go_returns; exact ⟨ret_eq (by rfl), rfl⟩)
end Go.Proofs.Ytbeojfhakmbacaa
namespace Go.Proofs.Ytbeojfhakmbacaa
open Go
section
variable {P : Program} {S : World → Prop}
def edgeOn (i : Nat) (o : Oper) : Oper := { o with after := o.after.push ⟨i, .data⟩ }
def strip (o : Oper) : Oper := { o with after := #[] }
theorem strip_op {o o' : Oper} (h : strip o = strip o') : o.dst = o'.dst ∧ o.op = o'.op ∧ o.type = o'.type ∧ o.pos = o'.pos ∧ o.guard = o'.guard := by
  obtain ⟨d, op, t, p, af, g⟩ := o
  obtain ⟨d', op', t', p', af', g'⟩ := o'
  simp only [strip, Oper.mk.injEq] at h
  exact ⟨h.1, h.2.1, h.2.2.1, h.2.2.2.1, h.2.2.2.2.2⟩
theorem exec_strip {o o' : Oper} (h : strip o = strip o') (ρ : Operand → Value) : execOp ρ o = execOp ρ o' := by
  obtain ⟨d, op, t, p, af, g⟩ := o
  obtain ⟨d', op', t', p', af', g'⟩ := o'
  simp only [strip, Oper.mk.injEq] at h
  obtain ⟨rfl, rfl, rfl, rfl, _, rfl⟩ := h
  rfl
theorem upon_strip {o o' : Oper} (h : strip o = strip o') (a : Act) (K : Act → World → Prop) (Q : Exit → Act → World → Prop) (r : Result Next) : o.upon P a K Q r = o'.upon P a K Q r := by
  obtain ⟨d, op, t, p, af, g⟩ := o
  obtain ⟨d', op', t', p', af', g'⟩ := o'
  simp only [strip, Oper.mk.injEq] at h
  obtain ⟨rfl, rfl, rfl, rfl, _, rfl⟩ := h
  cases r with
  | ok n w => cases n <;> rfl
  | halt x w => cases x <;> rfl
theorem wp_strip {o o' : Oper} (h : strip o = strip o') (a : Act) (w : World) (K : Act → World → Prop) (Q : Exit → Act → World → Prop) : o.wp P a w K Q = o'.wp P a w K Q := by
  unfold Oper.wp
  rw [exec_strip h, upon_strip h]
theorem asks_strip {o o' : Oper} (h : strip o = strip o') (a : Act) (w : World) : o.asks P a w = o'.asks P a w := by
  unfold Oper.asks
  rw [exec_strip h]
def Core (ops ops' : Array Oper) : Prop := ∀ j : Nat, (ops'[j]?).map strip = (ops[j]?).map strip
theorem Core.refl (ops : Array Oper) : Core ops ops := fun _ => rfl
theorem Core.trans {a b c : Array Oper} (h : Core a b) (h' : Core b c) : Core a c := fun j => (h' j).trans (h j)
theorem core_yield {ops ops' : Array Oper} (h : Core ops ops') (tmps : Array Value) : yielded ops' tmps = yielded ops tmps := by
  funext j
  have hj := h j
  unfold yielded
  have e : (ops'[j]?).bind (·.dst) = (ops[j]?).bind (·.dst) := by
    cases h1 : ops'[j]? <;> cases h2 : ops[j]? <;> rw [h1, h2] at hj <;> simp at hj
    simp [(strip_op hj).1]
  rw [e]
theorem wanted_strip {o o' : Oper} (h : strip o = strip o') (y : Nat → Option Bool) : Region.wanted o y = Region.wanted o' y := by
  unfold Region.wanted
  rw [(strip_op h).2.2.2.2]
theorem core_wpList {ops ops' : Array Oper} (h : Core ops ops') {Q : Exit → Act → World → Prop} : ∀ (l l' : List Oper), l'.map strip = l.map strip → wpList P ops' Q l' = wpList P ops Q l
  | [], [], _ => rfl
  | [], _ :: _, e => by simp at e
  | _ :: _, [], e => by simp at e
  | o :: l, o' :: l', e => by
    simp only [List.map_cons, List.cons.injEq] at e
    have ih := core_wpList (Q := Q) h l l' e.2
    funext a w
    unfold wpList
    rw [core_yield h, wanted_strip e.1, ih, wp_strip e.1, asks_strip e.1, (strip_op e.1).1]
section
variable {ops : Array Oper} {fs : List Nat} {i : Nat} {oi : Oper} {x : Operand} {Q : Exit → Act → World → Prop}
end
end
end Go.Proofs.Ytbeojfhakmbacaa
namespace Go.Proofs.Ytbeojfhakmbacaa
open Go.RowKit
theorem inPlace_c (n : Int) (w : World) : Calls Try.prog 112 #[.int .i64 n] w fun e w' => e = .returned (.bool (wi n 0 9899)) ∧ w = w' := by
  go_enter Try.func112, Try.ntmps112
  go_wp2_with (first | (go_at_call 63; refine (within_c _ _ _ _).mono ?_; rintro e w1 ⟨rfl, rfl⟩))
  all_goals (go_returns; exact ⟨ret_eq (by rfl), rfl⟩)
theorem validPlace_c (x y : Int) (w : World) : Calls Try.prog 77 #[.agg #[.int .i64 x, .int .i64 y]] w (Gives w (.bool (vP x y))) := by
  cases h : wi x 0 9899
  all_goals
    go_enter Try.func77, Try.ntmps77
    go_wp2_with (first | (go_at_call 112; refine (inPlace_c _ _).mono ?_; rintro e w1 ⟨rfl, rfl⟩))
    all_goals (go_returns; exact ⟨ret_eq (by simp [vP, h]), by go_grown⟩)
theorem reportOf_c (x y : Int) (o : Bool) (w : World) : Calls Try.prog 28 #[.agg #[.int .i64 x, .int .i64 y], .bool o] w (Gives w (.tuple #[.agg #[.bool (rofO x y o), .int .i64 (rofA x y o), .int .i64 (rofB x y o)], .bool (vP x y)])) := by
  rcases hv : vP x y with _ | _
  rotate_left
  obtain ⟨⟨hx0, hx1⟩, hy0, hy1⟩ := vP_iff.1 hv
  rotate_left
  focus
    go_enter Try.func28, Try.ntmps28
    go_wp2_with (first | (go_at_call 77; refine (validPlace_c _ _ _).mono ?_; rintro e w1 ⟨rfl, hb⟩; have hT : w1.cell? ⟨w.heap.size, 0, none⟩ = some (.int .i64 x) ∧ w1.cell? ⟨w.heap.size, 1, none⟩ = some (.int .i64 y) ∧ w1.cell? ⟨w.heap.size + 1, 0, none⟩ = some (.bool false) ∧ w1.cell? ⟨w.heap.size + 1, 1, none⟩ = some (.int .i64 0) ∧ w1.cell? ⟨w.heap.size + 1, 2, none⟩ = some (.int .i64 0) ∧ (w.heap.size + 1 < w1.heap.size ∧ ∀ i, w1.frozen? ⟨w.heap.size + 1, i, none⟩ = false) ∧ Below w.heap.size w w1 := keep5_1 (by first | assumption | (exact hS) | (refine ⟨?_, ?_, ?_, ?_, ?_, ?_, ?_⟩ <;> (first | (simp [go_sem]; done) | (simp [go_sem, *]; done) | (go_grown; done)))) hb; (try clear hS); have hS := hT; clear hT; have hB := hS.2.2.2.2.2.2; have hzw := hB.size; have hz1 : w.heap.size < w1.heap.size := World.block_lt_of_cell? w1 _ (hS.1); have hz2 : w.heap.size + 1 < w1.heap.size := World.block_lt_of_cell? w1 _ (hS.2.2.1); clear hb))
    refine bodyPost_ret (v := .tuple #[.agg #[.bool false, .int .i64 0, .int .i64 0], .bool false]) (by simp [results, Try.results28, go_sem, *]) rfl ⟨ret_eq (by simp [rofO, rofA, rofB, hv]), by go_grown⟩
  have hs := szOf_two o
  have hs1 : ¬ szOf o = 0 := by omega
  have hm1 := Int.tmod_eq_emod_of_nonneg (b := szOf o) hx0
  have hm2 := Int.tmod_eq_emod_of_nonneg (b := szOf o) hy0
  go_enter Try.func28, Try.ntmps28
  go_wp2_with (first | (go_at_call 77; refine (validPlace_c _ _ _).mono ?_; rintro e w1 ⟨rfl, hb⟩; have hT : w1.cell? ⟨w.heap.size, 0, none⟩ = some (.int .i64 x) ∧ w1.cell? ⟨w.heap.size, 1, none⟩ = some (.int .i64 y) ∧ w1.cell? ⟨w.heap.size + 1, 0, none⟩ = some (.bool false) ∧ w1.cell? ⟨w.heap.size + 1, 1, none⟩ = some (.int .i64 0) ∧ w1.cell? ⟨w.heap.size + 1, 2, none⟩ = some (.int .i64 0) ∧ (w.heap.size + 1 < w1.heap.size ∧ ∀ i, w1.frozen? ⟨w.heap.size + 1, i, none⟩ = false) ∧ Below w.heap.size w w1 := keep5_1 (by first | assumption | (exact hS) | (refine ⟨?_, ?_, ?_, ?_, ?_, ?_, ?_⟩ <;> (first | (simp [go_sem]; done) | (simp [go_sem, *]; done) | (go_grown; done)))) hb; (try clear hS); have hS := hT; clear hT; have hB := hS.2.2.2.2.2.2; have hzw := hB.size; have hz1 : w.heap.size < w1.heap.size := World.block_lt_of_cell? w1 _ (hS.1); have hz2 : w.heap.size + 1 < w1.heap.size := World.block_lt_of_cell? w1 _ (hS.2.2.1); clear hb))
  refine wp_region_ph [19] (fun p w' => w'.cell? ⟨w.heap.size, 0, none⟩ = some (.int .i64 x) ∧ w'.cell? ⟨w.heap.size, 1, none⟩ = some (.int .i64 y) ∧ w'.cell? ⟨w.heap.size + 1, 0, none⟩ = some (.bool false) ∧ w'.cell? ⟨w.heap.size + 1, 1, none⟩ = some (.int .i64 0) ∧ w'.cell? ⟨w.heap.size + 1, 2, none⟩ = some (.int .i64 0) ∧ w'.cell? ⟨w1.heap.size, 0, none⟩ = some (.bool o) ∧ w'.cell? ⟨w1.heap.size, 1, none⟩ = some (if p = 0 then .int .i64 0 else .int .i64 (x % szOf o)) ∧ w'.cell? ⟨w1.heap.size, 2, none⟩ = some (if p = 0 then .int .i64 0 else if p = 1 then .int .i64 0 else .int .i64 (y % szOf o)) ∧ (w.heap.size + 1 < w'.heap.size ∧ ∀ i, w'.frozen? ⟨w.heap.size + 1, i, none⟩ = false) ∧ (w1.heap.size < w'.heap.size ∧ ∀ i, w'.frozen? ⟨w1.heap.size, i, none⟩ = false) ∧ Below w.heap.size w w') (by kernel_rfl) (by kernel_rfl) (by kernel_rfl) (by first | assumption | (exact hS) | (refine ⟨?_, ?_, ?_, ?_, ?_, ?_, ?_, ?_, ?_, ?_, ?_⟩ <;> (first | (simp [go_sem]; done) | (simp [go_sem, *]; done) | (go_grown; done)))) ?_
  repeat (first
    | ((refine wpPh_skip (by rfl) (by rfl) ?_); simp only [Act.put, zp1, zp2, zp3])
    | ((refine wpPh_pure (v := ?_) (by rfl) (by rfl) (by rfl) (fun w => ?_) ?_); rotate_left; (focus (go_simp; (try (with_reducible rfl)); done)); simp only [Act.put, zp1, zp2, zp3])
    | ((refine wpPh_free (v := ?_) (by rfl) (by rfl) (by rfl) (fun q w hS => ?_) ?_); rotate_left; (focus ((try dsimp only at hS); go_simp; (try (with_reducible rfl)); done)); simp only [Act.put, zp1, zp2, zp3])
    | ((refine wpPh_val (v := ?_) (by rfl) (by rfl) (by rfl) (fun w hS => ?_) ?_); rotate_left; (focus ((try dsimp only at hS); go_simp; (try (with_reducible rfl)); done)); simp only [Act.put, zp1, zp2, zp3])
    | ((refine wpPh_call (v := ?_) (f := ?_) (args := ?_) (by rfl) (by rfl) (by rfl) (fun w => ?_) (fun w hS => ?_) ?_); rotate_left; rotate_left; rotate_left; (focus (go_simp; (constructor <;> (with_reducible rfl)); done)); (focus (first | (go_at_call 78; refine (size_c _ _ _ _).mono ?_; intro e w' h; refine ⟨h.1.trans ?_, keep8_2 hS h.2⟩; with_reducible rfl))); simp only [Act.put, zp1, zp2, zp3])
    | ((refine wpPh_store (by rfl) (by rfl) (by rfl) (fun w hS => ?_) ?_); (focus ((try dsimp only at hS); obtain ⟨c0, c1, c2, c3, c4, c5, c6, c7, c8, c9, hB⟩ := hS; apply Exists.intro; refine And.intro ?_ ?_; (focus (go_simp; (with_reducible rfl))); ((try dsimp only); refine ⟨by simp [go_sem, *], by simp [go_sem, *], by simp [go_sem, *], by simp [go_sem, *], by simp [go_sem, *], by simp [go_sem, *], by simp [go_sem, *], by simp [go_sem, *], by simp [go_sem, *], by simp [go_sem, *], by go_grown⟩)))))
  refine wpPh_nil ?_
  intro w2 hS
  have hT : w2.cell? ⟨w.heap.size, 0, none⟩ = some (.int .i64 x) ∧ w2.cell? ⟨w.heap.size, 1, none⟩ = some (.int .i64 y) ∧ w2.cell? ⟨w.heap.size + 1, 0, none⟩ = some (.bool false) ∧ w2.cell? ⟨w.heap.size + 1, 1, none⟩ = some (.int .i64 0) ∧ w2.cell? ⟨w.heap.size + 1, 2, none⟩ = some (.int .i64 0) ∧ w2.cell? ⟨w1.heap.size, 0, none⟩ = some (.bool o) ∧ w2.cell? ⟨w1.heap.size, 1, none⟩ = some (.int .i64 (x % szOf o)) ∧ w2.cell? ⟨w1.heap.size, 2, none⟩ = some (.int .i64 (y % szOf o)) ∧ (w.heap.size + 1 < w2.heap.size ∧ ∀ i, w2.frozen? ⟨w.heap.size + 1, i, none⟩ = false) ∧ (w1.heap.size < w2.heap.size ∧ ∀ i, w2.frozen? ⟨w1.heap.size, i, none⟩ = false) ∧ Below w.heap.size w w2 := hS
  clear hS
  have hS := hT
  obtain ⟨c0, c1, c2, c3, c4, c5, c6, c7, c8, c9, hB⟩ := hT
  go_wp2
  refine bodyPost_ret (v := .tuple #[.agg #[.bool o, .int .i64 (x % szOf o), .int .i64 (y % szOf o)], .bool true]) (by simp [results, Try.results28, go_sem, *]) rfl ⟨ret_eq (by simp [rofO, rofA, rofB, hv]), by go_grown⟩
theorem eqPt_run (a b c d : Int) (W : World) : (Op.equalIn 10000 48 (.agg #[.int .i64 a, .int .i64 b]) (.agg #[.int .i64 c, .int .i64 d])).run Try.prog W = .ok (peq (a, b) (c, d)) W := by
  rw [show (10000 : Nat) = 9999 + 1 from rfl, run_equalIn_agg W 9999 48 _ _ (by kernel_rfl) (by kernel_rfl)]
  simp only [Program.fieldsOf, Try.underlying48]
  go_simp
  by_cases h1 : a = c <;> by_cases h2 : b = d <;> simp [peq, h1, h2]
theorem nePt_bin (a b c d : Int) (W : World) : (binOp .neq 48 (.agg #[.int .i64 a, .int .i64 b]) (.agg #[.int .i64 c, .int .i64 d])).run Try.prog W = .ok (.bool (!peq (a, b) (c, d))) W := by
  rw [run_neq_struct, eqPt_run]; rfl
theorem eqRep_run (o : Bool) (a b : Int) (W : World) : (Op.equalIn 10000 40 (.agg #[.bool o, .int .i64 a, .int .i64 b]) (.agg #[.bool o, .int .i64 a, .int .i64 b])).run Try.prog W = .ok true W := by
  rw [show (10000 : Nat) = 9999 + 1 from rfl, run_equalIn_agg W 9999 40 _ _ (by kernel_rfl) (by kernel_rfl)]
  simp only [Program.fieldsOf, Try.underlying40]
  go_simp
theorem neRep_self (o : Bool) (a b : Int) (W : World) : (binOp .neq 40 (.agg #[.bool o, .int .i64 a, .int .i64 b]) (.agg #[.bool o, .int .i64 a, .int .i64 b])).run Try.prog W = .ok (.bool false) W := by
  rw [run_neq_struct, eqRep_run]; rfl
theorem nePla_self (a b : Int) (W : World) : (binOp .neq 48 (.agg #[.int .i64 a, .int .i64 b]) (.agg #[.int .i64 a, .int .i64 b])).run Try.prog W = .ok (.bool false) W := by
  rw [nePt_bin]; simp [peq]
end Go.Proofs.Ytbeojfhakmbacaa
namespace Go.Proofs.Ytbeojfhakmbacaa
open Go.RowKit
set_option maxHeartbeats 1600000 in
theorem isKept_c (o : Bool) (a b t : Int) (od : Bool) (m : Int) (w : World) : Calls Try.prog 64 #[.agg #[.bool o, .int .i64 a, .int .i64 b], .int .i64 t, .bool od, .int .i64 m] w (Gives w (.bool (kpt (o, a, b) t od m))) := by
  by_cases ht : t = -1
  · subst ht
    go_enter Try.func64, Try.ntmps64
    go_wp2
    all_goals
      go_returns
      refine ⟨ret_eq (bool_eq ?_), by go_grown⟩
      unfold kpt
      simp_all
  have hk : kpt (o, a, b) t od m = (wi t 0 m && (decide (o = od) && vR o a b)) := by unfold kpt; rw [if_neg ht]
  rw [hk]
  have htb : (t == -1) = false := beq_eq_false_iff_ne.2 ht
  rcases h1 : wi t 0 m with _ | _
  · go_enter Try.func64, Try.ntmps64
    go_wp2_with (first | (go_at_call 63; refine (within_c _ _ _ _).mono ?_; rintro e w1 ⟨rfl, rfl⟩) | (go_at_call 101; refine (validRep_c _ _ _ _).mono ?_; rintro e w1 ⟨rfl, hb⟩; have hT : w1.cell? ⟨w.heap.size, 0, none⟩ = some (.bool o) ∧ w1.cell? ⟨w.heap.size, 1, none⟩ = some (.int .i64 a) ∧ w1.cell? ⟨w.heap.size, 2, none⟩ = some (.int .i64 b) ∧ Below w.heap.size w w1 := (fun W h hb => ⟨keep_cell (hb) h.1, keep_cell (hb) h.2.1, keep_cell (hb) h.2.2.1, below_via h.2.2.2 (hb)⟩ : ∀ W : World, (W.cell? ⟨w.heap.size, 0, none⟩ = some (.bool o) ∧ W.cell? ⟨w.heap.size, 1, none⟩ = some (.int .i64 a) ∧ W.cell? ⟨w.heap.size, 2, none⟩ = some (.int .i64 b) ∧ Below w.heap.size w W) → Below W.heap.size W w1 → (w1.cell? ⟨w.heap.size, 0, none⟩ = some (.bool o) ∧ w1.cell? ⟨w.heap.size, 1, none⟩ = some (.int .i64 a) ∧ w1.cell? ⟨w.heap.size, 2, none⟩ = some (.int .i64 b) ∧ Below w.heap.size w w1)) _ (by first | (with_reducible assumption) | (exact hS) | (exact ⟨hS.1, hS.2.1, hS.2.2.1, (by go_grown)⟩) | (exact ⟨(by first | (with_reducible assumption) | (simp [go_sem]; done) | ((simp only [go_sem]); (with_reducible assumption)) | ((refine keep_cell ?_ (by with_reducible assumption)); go_grown; done) | (simp [go_sem, *]; done)), (by first | (with_reducible assumption) | (simp [go_sem]; done) | ((simp only [go_sem]); (with_reducible assumption)) | ((refine keep_cell ?_ (by with_reducible assumption)); go_grown; done) | (simp [go_sem, *]; done)), (by first | (with_reducible assumption) | (simp [go_sem]; done) | ((simp only [go_sem]); (with_reducible assumption)) | ((refine keep_cell ?_ (by with_reducible assumption)); go_grown; done) | (simp [go_sem, *]; done)), (by go_grown)⟩)) hb; (try clear hS); have hS := hT; clear hT; have hB := hS.2.2.2; have hzw : w.heap.size ≤ w1.heap.size := hB.size; have hz1 : w.heap.size < w1.heap.size := World.block_lt_of_cell? w1 _ (hS.1); clear hb))
    go_returns
    exact ⟨ret_eq (by simp), by go_grown⟩
  by_cases h2 : o = od
  · subst h2
    rcases h3 : vR o a b with _ | _
    all_goals
      go_enter Try.func64, Try.ntmps64
      go_wp2_with (first | (go_at_call 63; refine (within_c _ _ _ _).mono ?_; rintro e w1 ⟨rfl, rfl⟩) | (go_at_call 101; refine (validRep_c _ _ _ _).mono ?_; rintro e w1 ⟨rfl, hb⟩; have hT : w1.cell? ⟨w.heap.size, 0, none⟩ = some (.bool o) ∧ w1.cell? ⟨w.heap.size, 1, none⟩ = some (.int .i64 a) ∧ w1.cell? ⟨w.heap.size, 2, none⟩ = some (.int .i64 b) ∧ Below w.heap.size w w1 := (fun W h hb => ⟨keep_cell (hb) h.1, keep_cell (hb) h.2.1, keep_cell (hb) h.2.2.1, below_via h.2.2.2 (hb)⟩ : ∀ W : World, (W.cell? ⟨w.heap.size, 0, none⟩ = some (.bool o) ∧ W.cell? ⟨w.heap.size, 1, none⟩ = some (.int .i64 a) ∧ W.cell? ⟨w.heap.size, 2, none⟩ = some (.int .i64 b) ∧ Below w.heap.size w W) → Below W.heap.size W w1 → (w1.cell? ⟨w.heap.size, 0, none⟩ = some (.bool o) ∧ w1.cell? ⟨w.heap.size, 1, none⟩ = some (.int .i64 a) ∧ w1.cell? ⟨w.heap.size, 2, none⟩ = some (.int .i64 b) ∧ Below w.heap.size w w1)) _ (by first | (with_reducible assumption) | (exact hS) | (exact ⟨hS.1, hS.2.1, hS.2.2.1, (by go_grown)⟩) | (exact ⟨(by first | (with_reducible assumption) | (simp [go_sem]; done) | ((simp only [go_sem]); (with_reducible assumption)) | ((refine keep_cell ?_ (by with_reducible assumption)); go_grown; done) | (simp [go_sem, *]; done)), (by first | (with_reducible assumption) | (simp [go_sem]; done) | ((simp only [go_sem]); (with_reducible assumption)) | ((refine keep_cell ?_ (by with_reducible assumption)); go_grown; done) | (simp [go_sem, *]; done)), (by first | (with_reducible assumption) | (simp [go_sem]; done) | ((simp only [go_sem]); (with_reducible assumption)) | ((refine keep_cell ?_ (by with_reducible assumption)); go_grown; done) | (simp [go_sem, *]; done)), (by go_grown)⟩)) hb; (try clear hS); have hS := hT; clear hT; have hB := hS.2.2.2; have hzw : w.heap.size ≤ w1.heap.size := hB.size; have hz1 : w.heap.size < w1.heap.size := World.block_lt_of_cell? w1 _ (hS.1); clear hb))
      go_returns
      exact ⟨ret_eq (by simp), by go_grown⟩
  have h2b : (o == od) = false := beq_eq_false_iff_ne.2 h2
  rcases h3 : vR o a b with _ | _
  all_goals
    go_enter Try.func64, Try.ntmps64
    go_wp2_with (first | (go_at_call 63; refine (within_c _ _ _ _).mono ?_; rintro e w1 ⟨rfl, rfl⟩) | (go_at_call 101; refine (validRep_c _ _ _ _).mono ?_; rintro e w1 ⟨rfl, hb⟩; have hT : w1.cell? ⟨w.heap.size, 0, none⟩ = some (.bool o) ∧ w1.cell? ⟨w.heap.size, 1, none⟩ = some (.int .i64 a) ∧ w1.cell? ⟨w.heap.size, 2, none⟩ = some (.int .i64 b) ∧ Below w.heap.size w w1 := (fun W h hb => ⟨keep_cell (hb) h.1, keep_cell (hb) h.2.1, keep_cell (hb) h.2.2.1, below_via h.2.2.2 (hb)⟩ : ∀ W : World, (W.cell? ⟨w.heap.size, 0, none⟩ = some (.bool o) ∧ W.cell? ⟨w.heap.size, 1, none⟩ = some (.int .i64 a) ∧ W.cell? ⟨w.heap.size, 2, none⟩ = some (.int .i64 b) ∧ Below w.heap.size w W) → Below W.heap.size W w1 → (w1.cell? ⟨w.heap.size, 0, none⟩ = some (.bool o) ∧ w1.cell? ⟨w.heap.size, 1, none⟩ = some (.int .i64 a) ∧ w1.cell? ⟨w.heap.size, 2, none⟩ = some (.int .i64 b) ∧ Below w.heap.size w w1)) _ (by first | (with_reducible assumption) | (exact hS) | (exact ⟨hS.1, hS.2.1, hS.2.2.1, (by go_grown)⟩) | (exact ⟨(by first | (with_reducible assumption) | (simp [go_sem]; done) | ((simp only [go_sem]); (with_reducible assumption)) | ((refine keep_cell ?_ (by with_reducible assumption)); go_grown; done) | (simp [go_sem, *]; done)), (by first | (with_reducible assumption) | (simp [go_sem]; done) | ((simp only [go_sem]); (with_reducible assumption)) | ((refine keep_cell ?_ (by with_reducible assumption)); go_grown; done) | (simp [go_sem, *]; done)), (by first | (with_reducible assumption) | (simp [go_sem]; done) | ((simp only [go_sem]); (with_reducible assumption)) | ((refine keep_cell ?_ (by with_reducible assumption)); go_grown; done) | (simp [go_sem, *]; done)), (by go_grown)⟩)) hb; (try clear hS); have hS := hT; clear hT; have hB := hS.2.2.2; have hzw : w.heap.size ≤ w1.heap.size := hB.size; have hz1 : w.heap.size < w1.heap.size := World.block_lt_of_cell? w1 _ (hS.1); clear hb))
    go_returns
    exact ⟨ret_eq (by simp [h2]), by go_grown⟩
set_option maxHeartbeats 1600000 in
theorem l9Half_c (o : Bool) (a b t : Int) (od : Bool) (m : Int) (w : World) : Calls Try.prog 99 #[.agg #[.bool o, .int .i64 a, .int .i64 b], .int .i64 t, .bool od, .int .i64 m] w (Gives w (.bool (kpt (o, a, b) t od m))) := by
  by_cases ht : t = -1
  · subst ht
    go_enter Try.func99, Try.ntmps99
    go_wp2
    all_goals
      go_returns
      refine ⟨ret_eq (bool_eq ?_), by go_grown⟩
      unfold kpt
      simp_all
  have hk : kpt (o, a, b) t od m = (wi t 0 m && (decide (o = od) && vR o a b)) := by unfold kpt; rw [if_neg ht]
  rw [hk]
  have htb : (t == -1) = false := beq_eq_false_iff_ne.2 ht
  rcases h1 : wi t 0 m with _ | _
  · go_enter Try.func99, Try.ntmps99
    go_wp2_with (first | (go_at_call 98; refine (l1In_c _ _ _ _).mono ?_; rintro e w1 ⟨rfl, rfl⟩) | (go_at_call 120; refine (l7Report_c _ _ _ _).mono ?_; rintro e w1 ⟨rfl, hb⟩; have hT : w1.cell? ⟨w.heap.size, 0, none⟩ = some (.bool o) ∧ w1.cell? ⟨w.heap.size, 1, none⟩ = some (.int .i64 a) ∧ w1.cell? ⟨w.heap.size, 2, none⟩ = some (.int .i64 b) ∧ Below w.heap.size w w1 := (fun W h hb => ⟨keep_cell (hb) h.1, keep_cell (hb) h.2.1, keep_cell (hb) h.2.2.1, below_via h.2.2.2 (hb)⟩ : ∀ W : World, (W.cell? ⟨w.heap.size, 0, none⟩ = some (.bool o) ∧ W.cell? ⟨w.heap.size, 1, none⟩ = some (.int .i64 a) ∧ W.cell? ⟨w.heap.size, 2, none⟩ = some (.int .i64 b) ∧ Below w.heap.size w W) → Below W.heap.size W w1 → (w1.cell? ⟨w.heap.size, 0, none⟩ = some (.bool o) ∧ w1.cell? ⟨w.heap.size, 1, none⟩ = some (.int .i64 a) ∧ w1.cell? ⟨w.heap.size, 2, none⟩ = some (.int .i64 b) ∧ Below w.heap.size w w1)) _ (by first | (with_reducible assumption) | (exact hS) | (exact ⟨hS.1, hS.2.1, hS.2.2.1, (by go_grown)⟩) | (exact ⟨(by first | (with_reducible assumption) | (simp [go_sem]; done) | ((simp only [go_sem]); (with_reducible assumption)) | ((refine keep_cell ?_ (by with_reducible assumption)); go_grown; done) | (simp [go_sem, *]; done)), (by first | (with_reducible assumption) | (simp [go_sem]; done) | ((simp only [go_sem]); (with_reducible assumption)) | ((refine keep_cell ?_ (by with_reducible assumption)); go_grown; done) | (simp [go_sem, *]; done)), (by first | (with_reducible assumption) | (simp [go_sem]; done) | ((simp only [go_sem]); (with_reducible assumption)) | ((refine keep_cell ?_ (by with_reducible assumption)); go_grown; done) | (simp [go_sem, *]; done)), (by go_grown)⟩)) hb; (try clear hS); have hS := hT; clear hT; have hB := hS.2.2.2; have hzw : w.heap.size ≤ w1.heap.size := hB.size; have hz1 : w.heap.size < w1.heap.size := World.block_lt_of_cell? w1 _ (hS.1); clear hb))
    go_returns
    exact ⟨ret_eq (by simp), by go_grown⟩
  by_cases h2 : o = od
  · subst h2
    rcases h3 : vR o a b with _ | _
    all_goals
      go_enter Try.func99, Try.ntmps99
      go_wp2_with (first | (go_at_call 98; refine (l1In_c _ _ _ _).mono ?_; rintro e w1 ⟨rfl, rfl⟩) | (go_at_call 120; refine (l7Report_c _ _ _ _).mono ?_; rintro e w1 ⟨rfl, hb⟩; have hT : w1.cell? ⟨w.heap.size, 0, none⟩ = some (.bool o) ∧ w1.cell? ⟨w.heap.size, 1, none⟩ = some (.int .i64 a) ∧ w1.cell? ⟨w.heap.size, 2, none⟩ = some (.int .i64 b) ∧ Below w.heap.size w w1 := (fun W h hb => ⟨keep_cell (hb) h.1, keep_cell (hb) h.2.1, keep_cell (hb) h.2.2.1, below_via h.2.2.2 (hb)⟩ : ∀ W : World, (W.cell? ⟨w.heap.size, 0, none⟩ = some (.bool o) ∧ W.cell? ⟨w.heap.size, 1, none⟩ = some (.int .i64 a) ∧ W.cell? ⟨w.heap.size, 2, none⟩ = some (.int .i64 b) ∧ Below w.heap.size w W) → Below W.heap.size W w1 → (w1.cell? ⟨w.heap.size, 0, none⟩ = some (.bool o) ∧ w1.cell? ⟨w.heap.size, 1, none⟩ = some (.int .i64 a) ∧ w1.cell? ⟨w.heap.size, 2, none⟩ = some (.int .i64 b) ∧ Below w.heap.size w w1)) _ (by first | (with_reducible assumption) | (exact hS) | (exact ⟨hS.1, hS.2.1, hS.2.2.1, (by go_grown)⟩) | (exact ⟨(by first | (with_reducible assumption) | (simp [go_sem]; done) | ((simp only [go_sem]); (with_reducible assumption)) | ((refine keep_cell ?_ (by with_reducible assumption)); go_grown; done) | (simp [go_sem, *]; done)), (by first | (with_reducible assumption) | (simp [go_sem]; done) | ((simp only [go_sem]); (with_reducible assumption)) | ((refine keep_cell ?_ (by with_reducible assumption)); go_grown; done) | (simp [go_sem, *]; done)), (by first | (with_reducible assumption) | (simp [go_sem]; done) | ((simp only [go_sem]); (with_reducible assumption)) | ((refine keep_cell ?_ (by with_reducible assumption)); go_grown; done) | (simp [go_sem, *]; done)), (by go_grown)⟩)) hb; (try clear hS); have hS := hT; clear hT; have hB := hS.2.2.2; have hzw : w.heap.size ≤ w1.heap.size := hB.size; have hz1 : w.heap.size < w1.heap.size := World.block_lt_of_cell? w1 _ (hS.1); clear hb))
      go_returns
      exact ⟨ret_eq (by simp), by go_grown⟩
  have h2b : (o == od) = false := beq_eq_false_iff_ne.2 h2
  rcases h3 : vR o a b with _ | _
  all_goals
    go_enter Try.func99, Try.ntmps99
    go_wp2_with (first | (go_at_call 98; refine (l1In_c _ _ _ _).mono ?_; rintro e w1 ⟨rfl, rfl⟩) | (go_at_call 120; refine (l7Report_c _ _ _ _).mono ?_; rintro e w1 ⟨rfl, hb⟩; have hT : w1.cell? ⟨w.heap.size, 0, none⟩ = some (.bool o) ∧ w1.cell? ⟨w.heap.size, 1, none⟩ = some (.int .i64 a) ∧ w1.cell? ⟨w.heap.size, 2, none⟩ = some (.int .i64 b) ∧ Below w.heap.size w w1 := (fun W h hb => ⟨keep_cell (hb) h.1, keep_cell (hb) h.2.1, keep_cell (hb) h.2.2.1, below_via h.2.2.2 (hb)⟩ : ∀ W : World, (W.cell? ⟨w.heap.size, 0, none⟩ = some (.bool o) ∧ W.cell? ⟨w.heap.size, 1, none⟩ = some (.int .i64 a) ∧ W.cell? ⟨w.heap.size, 2, none⟩ = some (.int .i64 b) ∧ Below w.heap.size w W) → Below W.heap.size W w1 → (w1.cell? ⟨w.heap.size, 0, none⟩ = some (.bool o) ∧ w1.cell? ⟨w.heap.size, 1, none⟩ = some (.int .i64 a) ∧ w1.cell? ⟨w.heap.size, 2, none⟩ = some (.int .i64 b) ∧ Below w.heap.size w w1)) _ (by first | (with_reducible assumption) | (exact hS) | (exact ⟨hS.1, hS.2.1, hS.2.2.1, (by go_grown)⟩) | (exact ⟨(by first | (with_reducible assumption) | (simp [go_sem]; done) | ((simp only [go_sem]); (with_reducible assumption)) | ((refine keep_cell ?_ (by with_reducible assumption)); go_grown; done) | (simp [go_sem, *]; done)), (by first | (with_reducible assumption) | (simp [go_sem]; done) | ((simp only [go_sem]); (with_reducible assumption)) | ((refine keep_cell ?_ (by with_reducible assumption)); go_grown; done) | (simp [go_sem, *]; done)), (by first | (with_reducible assumption) | (simp [go_sem]; done) | ((simp only [go_sem]); (with_reducible assumption)) | ((refine keep_cell ?_ (by with_reducible assumption)); go_grown; done) | (simp [go_sem, *]; done)), (by go_grown)⟩)) hb; (try clear hS); have hS := hT; clear hT; have hB := hS.2.2.2; have hzw : w.heap.size ≤ w1.heap.size := hB.size; have hz1 : w.heap.size < w1.heap.size := World.block_lt_of_cell? w1 _ (hS.1); clear hb))
    go_returns
    exact ⟨ret_eq (by simp [h2]), by go_grown⟩
end Go.Proofs.Ytbeojfhakmbacaa
namespace Go.Proofs.Ytbeojfhakmbacaa
open Go.RowKit
theorem set_app (A B : List Value) (n j : Nat) (v : Value) (h : A.length = n) : (A ++ B).set (n + j) v = A ++ B.set j v := by
  rw [List.set_append_right _ _ (by omega), h, show n + j - n = j from by omega]
theorem cell_set_some {w : World} {p : Addr} {v : Value} (h : (w.cell? p).isSome = true) : (w.setCell p v).cell? p = some v := by
  obtain ⟨u, hu⟩ := Option.isSome_iff_exists.1 h
  exact World.cell?_setCell_same _ _ _ hu
theorem Reads.hd1 {w : World} {B n : Nat} {A : Option Addr} {l : List Hd} (h : Reads w B 10 A n (hds l)) {k : Nat} (hk : k < l.length) {a : Int} (e : (hx l k).1 = a) : ∃ ad : Addr, A = some ad ∧ ad.block < B ∧ w.cell? (ad.add (k * 10)) = some (.int .i64 a) := by
  obtain ⟨⟨a', ⟨eo, ea, eb⟩, et, ⟨oo, oa, ob⟩, ot, f⟩, he⟩ : ∃ q, hx l k = q := ⟨_, rfl⟩
  obtain ⟨ad, h0, hb, hc, _⟩ := h.hd hk he
  rw [he] at e
  have e2 : a' = a := e
  exact ⟨ad, h0, hb, by rw [← e2]; exact hc⟩
/-! ### Receivers that are right -/
theorem okN_zero {m : Int} {l : List Hd} : okN m l 0 := fun _ h => absurd h (by omega)
theorem okN_succ {m : Int} {l : List Hd} {i : Nat} (h : okN m l i) (h1 : okH m (hx l i) = true) (h2 : ascH l i) : okN m l (i + 1) := by
  intro j hj
  by_cases e : j = i
  · subst e; exact ⟨h1, h2⟩
  · exact h j (by omega)
theorem okR_min {m : Int} {l : List Hd} (h : wi m 0 9999 = false) : okR m l = false := by unfold okR; rw [h]; rfl
theorem okR_six {m : Int} {l : List Hd} (h : 6 < l.length) : okR m l = false := by unfold okR; rw [decide_eq_false (by omega)]; simp
theorem okR_bad {m : Int} {l : List Hd} {i : Nat} (hi : i < l.length) (h : ¬ (okH m (hx l i) = true ∧ ascH l i)) : okR m l = false := by
  unfold okR
  have e : ((List.range l.length).all fun j => okH m (hx l j) && decide (ascH l j)) = false := by
    rw [List.all_eq_false]
    refine ⟨i, List.mem_range.2 hi, fun k => h ?_⟩
    simpa using k
  rw [e]; simp
theorem okR_yes {m : Int} {l : List Hd} (h1 : wi m 0 9999 = true) (h2 : l.length ≤ 6) (h : okN m l l.length) : okR m l = true := by
  unfold okR
  have e : ((List.range l.length).all fun j => okH m (hx l j) && decide (ascH l j)) = true := by
    rw [List.all_eq_true]
    intro j hj
    have := h j (List.mem_range.1 hj)
    simpa using this
  rw [e, h1, decide_eq_true h2]; rfl
theorem okR_iff {m : Int} {l : List Hd} (h : okR m l = true) : wi m 0 9999 = true ∧ l.length ≤ 6 ∧ okN m l l.length := by
  unfold okR at h
  simp only [Bool.and_eq_true, decide_eq_true_eq, List.all_eq_true, List.mem_range] at h
  exact ⟨h.1, h.2.1, fun j hj => by simpa using h.2.2 j hj⟩
theorem okH_eq {m : Int} {l : List Hd} {i : Nat} {a : Int} {eo : Bool} {ea eb et : Int} {oo : Bool} {oa ob ot f : Int} (e : hx l i = (a, (eo, ea, eb), et, (oo, oa, ob), ot, f)) :
    okH m (hx l i) = (wi a 1 65535 && wi f 1 9999 && (kpt (eo, ea, eb) et false m && kpt (oo, oa, ob) ot true m)) := by rw [e]; rfl
theorem asc_zero {l : List Hd} : ascH l 0 := fun h => absurd h (by omega)
theorem asc_succ {l : List Hd} {k : Nat} {a a2 : Int} (e : (hx l (k + 1)).1 = a) (e2 : (hx l k).1 = a2) : ascH l (k + 1) ↔ a2 < a := by
  unfold ascH; rw [show k + 1 - 1 = k from rfl, e, e2]; exact ⟨fun h => h (by omega), fun h _ => h⟩
end Go.Proofs.Ytbeojfhakmbacaa
namespace Go.Proofs.Ytbeojfhakmbacaa
open Go.RowKit
end Go.Proofs.Ytbeojfhakmbacaa
namespace Go.Proofs.Ytbeojfhakmbacaa
open Go.RowKit
set_option maxHeartbeats 4000000 in
theorem vReceiver_c (m : Int) (A1 A2 : Option Addr) (c1 c2 : Nat) (l : List Hd) (w : World) (h1 : Hid (Reads w w.heap.size 10 A1 l.length (hds l))) (h2 : Hid (Reads w w.heap.size 10 A2 l.length (hds l))) (b1 : l.length ≤ 4000000)  : Calls Try.prog 17 #[.agg #[.int .i64 m, .slice A1 l.length c1], .agg #[.int .i64 m, .slice A2 l.length c2]] w (Gives w (.bool true)) := by
  go_enter Try.func17, Try.ntmps17
  go_wp2
  go_loopw [5] (fun iv wr => ∃ i : Nat, i ≤ l.length ∧ iv = .int .i64 i ∧ (wr.cell? ⟨w.heap.size, 0, none⟩ = some (.int .i64 m) ∧ wr.cell? ⟨w.heap.size, 1, none⟩ = some (.slice A1 l.length c1) ∧ wr.cell? ⟨w.heap.size + 1, 0, none⟩ = some (.int .i64 m) ∧ wr.cell? ⟨w.heap.size + 1, 1, none⟩ = some (.slice A2 l.length c2) ∧ Below w.heap.size w wr)) (fun iv _ => l.length - (intOf iv).toNat)
  case atStart => exact ⟨0, by omega, rfl, by first | (with_reducible assumption) | (exact hS) | (exact ⟨hS.1, hS.2.1, hS.2.2.1, hS.2.2.2.1, (by go_grown)⟩) | (exact ⟨(by first | (with_reducible assumption) | (simp [go_sem]; done) | ((simp only [go_sem]); (with_reducible assumption)) | ((refine keep_cell ?_ (by with_reducible assumption)); go_grown; done) | (simp [go_sem, *]; done)), (by first | (with_reducible assumption) | (simp [go_sem]; done) | ((simp only [go_sem]); (with_reducible assumption)) | ((refine keep_cell ?_ (by with_reducible assumption)); go_grown; done) | (simp [go_sem, *]; done)), (by first | (with_reducible assumption) | (simp [go_sem]; done) | ((simp only [go_sem]); (with_reducible assumption)) | ((refine keep_cell ?_ (by with_reducible assumption)); go_grown; done) | (simp [go_sem, *]; done)), (by first | (with_reducible assumption) | (simp [go_sem]; done) | ((simp only [go_sem]); (with_reducible assumption)) | ((refine keep_cell ?_ (by with_reducible assumption)); go_grown; done) | (simp [go_sem, *]; done)), (by go_grown)⟩)⟩
  case round =>
    obtain ⟨i, hi, rfl, hS⟩ := hrel
    have hS2 := hS
    obtain ⟨r0, r1, r2, r3, hB⟩ := hS2
    have hzw : w.heap.size ≤ wr.heap.size := hB.size
    have hz1 : w.heap.size < wr.heap.size := World.block_lt_of_cell? wr _ (hS.1)
    have hz2 : w.heap.size + 1 < wr.heap.size := World.block_lt_of_cell? wr _ (hS.2.2.1)
    by_cases hlt : i < l.length
    · obtain ⟨⟨a, ⟨eo, ea, eb⟩, et, ⟨oo, oa, ob⟩, ot, f⟩, he⟩ : ∃ q, hx l i = q := ⟨_, rfl⟩
      obtain ⟨a1, rfl, ekb, e0, e1, e2, e3, e4, e5, e6, e7, e8, e9⟩ := (h1.out.below hB).hd (k := i) (by omega) he
      obtain ⟨a2, rfl, gkb, g0, g1, g2, g3, g4, g5, g6, g7, g8, g9⟩ := (h2.out.below hB).hd (k := i) (by omega) he
      clear he
      go_wp2
      refine wp_region_det (fun w' => w'.cell? ⟨w.heap.size, 0, none⟩ = some (.int .i64 m) ∧ w'.cell? ⟨w.heap.size, 1, none⟩ = some (.slice (some a1) l.length c1) ∧ w'.cell? ⟨w.heap.size + 1, 0, none⟩ = some (.int .i64 m) ∧ w'.cell? ⟨w.heap.size + 1, 1, none⟩ = some (.slice (some a2) l.length c2) ∧ w'.cell? (a1.add (i * 10)) = some (.int .i64 a) ∧ w'.cell? ⟨(a1.add (i * 10)).block, (a1.add (i * 10)).off + 1, none⟩ = some (.bool eo) ∧ w'.cell? ⟨(a1.add (i * 10)).block, (a1.add (i * 10)).off + 2, none⟩ = some (.int .i64 ea) ∧ w'.cell? ⟨(a1.add (i * 10)).block, (a1.add (i * 10)).off + 3, none⟩ = some (.int .i64 eb) ∧ w'.cell? ⟨(a1.add (i * 10)).block, (a1.add (i * 10)).off + 4, none⟩ = some (.int .i64 et) ∧ w'.cell? ⟨(a1.add (i * 10)).block, (a1.add (i * 10)).off + 5, none⟩ = some (.bool oo) ∧ w'.cell? ⟨(a1.add (i * 10)).block, (a1.add (i * 10)).off + 6, none⟩ = some (.int .i64 oa) ∧ w'.cell? ⟨(a1.add (i * 10)).block, (a1.add (i * 10)).off + 7, none⟩ = some (.int .i64 ob) ∧ w'.cell? ⟨(a1.add (i * 10)).block, (a1.add (i * 10)).off + 8, none⟩ = some (.int .i64 ot) ∧ w'.cell? ⟨(a1.add (i * 10)).block, (a1.add (i * 10)).off + 9, none⟩ = some (.int .i64 f) ∧ w'.cell? (a2.add (i * 10)) = some (.int .i64 a) ∧ w'.cell? ⟨(a2.add (i * 10)).block, (a2.add (i * 10)).off + 1, none⟩ = some (.bool eo) ∧ w'.cell? ⟨(a2.add (i * 10)).block, (a2.add (i * 10)).off + 2, none⟩ = some (.int .i64 ea) ∧ w'.cell? ⟨(a2.add (i * 10)).block, (a2.add (i * 10)).off + 3, none⟩ = some (.int .i64 eb) ∧ w'.cell? ⟨(a2.add (i * 10)).block, (a2.add (i * 10)).off + 4, none⟩ = some (.int .i64 et) ∧ w'.cell? ⟨(a2.add (i * 10)).block, (a2.add (i * 10)).off + 5, none⟩ = some (.bool oo) ∧ w'.cell? ⟨(a2.add (i * 10)).block, (a2.add (i * 10)).off + 6, none⟩ = some (.int .i64 oa) ∧ w'.cell? ⟨(a2.add (i * 10)).block, (a2.add (i * 10)).off + 7, none⟩ = some (.int .i64 ob) ∧ w'.cell? ⟨(a2.add (i * 10)).block, (a2.add (i * 10)).off + 8, none⟩ = some (.int .i64 ot) ∧ w'.cell? ⟨(a2.add (i * 10)).block, (a2.add (i * 10)).off + 9, none⟩ = some (.int .i64 f) ∧ Below w.heap.size w w') (by kernel_rfl) (by kernel_rfl) (by first | (with_reducible assumption) | (exact hS) | (exact ⟨hS.1, hS.2.1, hS.2.2.1, hS.2.2.2.1, hS.2.2.2.2.1, hS.2.2.2.2.2.1, hS.2.2.2.2.2.2.1, hS.2.2.2.2.2.2.2.1, hS.2.2.2.2.2.2.2.2.1, hS.2.2.2.2.2.2.2.2.2.1, hS.2.2.2.2.2.2.2.2.2.2.1, hS.2.2.2.2.2.2.2.2.2.2.2.1, hS.2.2.2.2.2.2.2.2.2.2.2.2.1, hS.2.2.2.2.2.2.2.2.2.2.2.2.2.1, hS.2.2.2.2.2.2.2.2.2.2.2.2.2.2.1, hS.2.2.2.2.2.2.2.2.2.2.2.2.2.2.2.1, hS.2.2.2.2.2.2.2.2.2.2.2.2.2.2.2.2.1, hS.2.2.2.2.2.2.2.2.2.2.2.2.2.2.2.2.2.1, hS.2.2.2.2.2.2.2.2.2.2.2.2.2.2.2.2.2.2.1, hS.2.2.2.2.2.2.2.2.2.2.2.2.2.2.2.2.2.2.2.1, hS.2.2.2.2.2.2.2.2.2.2.2.2.2.2.2.2.2.2.2.2.1, hS.2.2.2.2.2.2.2.2.2.2.2.2.2.2.2.2.2.2.2.2.2.1, hS.2.2.2.2.2.2.2.2.2.2.2.2.2.2.2.2.2.2.2.2.2.2.1, hS.2.2.2.2.2.2.2.2.2.2.2.2.2.2.2.2.2.2.2.2.2.2.2.1, (by go_grown)⟩) | (exact ⟨(by first | (with_reducible assumption) | (simp [go_sem]; done) | ((simp only [go_sem]); (with_reducible assumption)) | ((refine keep_cell ?_ (by with_reducible assumption)); go_grown; done) | (simp [go_sem, *]; done)), (by first | (with_reducible assumption) | (simp [go_sem]; done) | ((simp only [go_sem]); (with_reducible assumption)) | ((refine keep_cell ?_ (by with_reducible assumption)); go_grown; done) | (simp [go_sem, *]; done)), (by first | (with_reducible assumption) | (simp [go_sem]; done) | ((simp only [go_sem]); (with_reducible assumption)) | ((refine keep_cell ?_ (by with_reducible assumption)); go_grown; done) | (simp [go_sem, *]; done)), (by first | (with_reducible assumption) | (simp [go_sem]; done) | ((simp only [go_sem]); (with_reducible assumption)) | ((refine keep_cell ?_ (by with_reducible assumption)); go_grown; done) | (simp [go_sem, *]; done)), (by first | (with_reducible assumption) | (simp [go_sem]; done) | ((simp only [go_sem]); (with_reducible assumption)) | ((refine keep_cell ?_ (by with_reducible assumption)); go_grown; done) | (simp [go_sem, *]; done)), (by first | (with_reducible assumption) | (simp [go_sem]; done) | ((simp only [go_sem]); (with_reducible assumption)) | ((refine keep_cell ?_ (by with_reducible assumption)); go_grown; done) | (simp [go_sem, *]; done)), (by first | (with_reducible assumption) | (simp [go_sem]; done) | ((simp only [go_sem]); (with_reducible assumption)) | ((refine keep_cell ?_ (by with_reducible assumption)); go_grown; done) | (simp [go_sem, *]; done)), (by first | (with_reducible assumption) | (simp [go_sem]; done) | ((simp only [go_sem]); (with_reducible assumption)) | ((refine keep_cell ?_ (by with_reducible assumption)); go_grown; done) | (simp [go_sem, *]; done)), (by first | (with_reducible assumption) | (simp [go_sem]; done) | ((simp only [go_sem]); (with_reducible assumption)) | ((refine keep_cell ?_ (by with_reducible assumption)); go_grown; done) | (simp [go_sem, *]; done)), (by first | (with_reducible assumption) | (simp [go_sem]; done) | ((simp only [go_sem]); (with_reducible assumption)) | ((refine keep_cell ?_ (by with_reducible assumption)); go_grown; done) | (simp [go_sem, *]; done)), (by first | (with_reducible assumption) | (simp [go_sem]; done) | ((simp only [go_sem]); (with_reducible assumption)) | ((refine keep_cell ?_ (by with_reducible assumption)); go_grown; done) | (simp [go_sem, *]; done)), (by first | (with_reducible assumption) | (simp [go_sem]; done) | ((simp only [go_sem]); (with_reducible assumption)) | ((refine keep_cell ?_ (by with_reducible assumption)); go_grown; done) | (simp [go_sem, *]; done)), (by first | (with_reducible assumption) | (simp [go_sem]; done) | ((simp only [go_sem]); (with_reducible assumption)) | ((refine keep_cell ?_ (by with_reducible assumption)); go_grown; done) | (simp [go_sem, *]; done)), (by first | (with_reducible assumption) | (simp [go_sem]; done) | ((simp only [go_sem]); (with_reducible assumption)) | ((refine keep_cell ?_ (by with_reducible assumption)); go_grown; done) | (simp [go_sem, *]; done)), (by first | (with_reducible assumption) | (simp [go_sem]; done) | ((simp only [go_sem]); (with_reducible assumption)) | ((refine keep_cell ?_ (by with_reducible assumption)); go_grown; done) | (simp [go_sem, *]; done)), (by first | (with_reducible assumption) | (simp [go_sem]; done) | ((simp only [go_sem]); (with_reducible assumption)) | ((refine keep_cell ?_ (by with_reducible assumption)); go_grown; done) | (simp [go_sem, *]; done)), (by first | (with_reducible assumption) | (simp [go_sem]; done) | ((simp only [go_sem]); (with_reducible assumption)) | ((refine keep_cell ?_ (by with_reducible assumption)); go_grown; done) | (simp [go_sem, *]; done)), (by first | (with_reducible assumption) | (simp [go_sem]; done) | ((simp only [go_sem]); (with_reducible assumption)) | ((refine keep_cell ?_ (by with_reducible assumption)); go_grown; done) | (simp [go_sem, *]; done)), (by first | (with_reducible assumption) | (simp [go_sem]; done) | ((simp only [go_sem]); (with_reducible assumption)) | ((refine keep_cell ?_ (by with_reducible assumption)); go_grown; done) | (simp [go_sem, *]; done)), (by first | (with_reducible assumption) | (simp [go_sem]; done) | ((simp only [go_sem]); (with_reducible assumption)) | ((refine keep_cell ?_ (by with_reducible assumption)); go_grown; done) | (simp [go_sem, *]; done)), (by first | (with_reducible assumption) | (simp [go_sem]; done) | ((simp only [go_sem]); (with_reducible assumption)) | ((refine keep_cell ?_ (by with_reducible assumption)); go_grown; done) | (simp [go_sem, *]; done)), (by first | (with_reducible assumption) | (simp [go_sem]; done) | ((simp only [go_sem]); (with_reducible assumption)) | ((refine keep_cell ?_ (by with_reducible assumption)); go_grown; done) | (simp [go_sem, *]; done)), (by first | (with_reducible assumption) | (simp [go_sem]; done) | ((simp only [go_sem]); (with_reducible assumption)) | ((refine keep_cell ?_ (by with_reducible assumption)); go_grown; done) | (simp [go_sem, *]; done)), (by first | (with_reducible assumption) | (simp [go_sem]; done) | ((simp only [go_sem]); (with_reducible assumption)) | ((refine keep_cell ?_ (by with_reducible assumption)); go_grown; done) | (simp [go_sem, *]; done)), (by go_grown)⟩)) ?_
      repeat (first
        | ((refine wpDet_skip (by rfl) ?_); simp only [Act.put, zp1, zp2, zp3])
        | ((refine wpDet_val (v := ?_) (by rfl) (fun w hS => ?_) ?_); rotate_left; (focus ((try dsimp only at hS); go_simp; (try (with_reducible rfl)); done)); simp only [Act.put, zp1, zp2, zp3]))
      refine wpDet_nil ?_
      intro w1 hS
      have hT : w1.cell? ⟨w.heap.size, 0, none⟩ = some (.int .i64 m) ∧ w1.cell? ⟨w.heap.size, 1, none⟩ = some (.slice (some a1) l.length c1) ∧ w1.cell? ⟨w.heap.size + 1, 0, none⟩ = some (.int .i64 m) ∧ w1.cell? ⟨w.heap.size + 1, 1, none⟩ = some (.slice (some a2) l.length c2) ∧ w1.cell? (a1.add (i * 10)) = some (.int .i64 a) ∧ w1.cell? ⟨(a1.add (i * 10)).block, (a1.add (i * 10)).off + 1, none⟩ = some (.bool eo) ∧ w1.cell? ⟨(a1.add (i * 10)).block, (a1.add (i * 10)).off + 2, none⟩ = some (.int .i64 ea) ∧ w1.cell? ⟨(a1.add (i * 10)).block, (a1.add (i * 10)).off + 3, none⟩ = some (.int .i64 eb) ∧ w1.cell? ⟨(a1.add (i * 10)).block, (a1.add (i * 10)).off + 4, none⟩ = some (.int .i64 et) ∧ w1.cell? ⟨(a1.add (i * 10)).block, (a1.add (i * 10)).off + 5, none⟩ = some (.bool oo) ∧ w1.cell? ⟨(a1.add (i * 10)).block, (a1.add (i * 10)).off + 6, none⟩ = some (.int .i64 oa) ∧ w1.cell? ⟨(a1.add (i * 10)).block, (a1.add (i * 10)).off + 7, none⟩ = some (.int .i64 ob) ∧ w1.cell? ⟨(a1.add (i * 10)).block, (a1.add (i * 10)).off + 8, none⟩ = some (.int .i64 ot) ∧ w1.cell? ⟨(a1.add (i * 10)).block, (a1.add (i * 10)).off + 9, none⟩ = some (.int .i64 f) ∧ w1.cell? (a2.add (i * 10)) = some (.int .i64 a) ∧ w1.cell? ⟨(a2.add (i * 10)).block, (a2.add (i * 10)).off + 1, none⟩ = some (.bool eo) ∧ w1.cell? ⟨(a2.add (i * 10)).block, (a2.add (i * 10)).off + 2, none⟩ = some (.int .i64 ea) ∧ w1.cell? ⟨(a2.add (i * 10)).block, (a2.add (i * 10)).off + 3, none⟩ = some (.int .i64 eb) ∧ w1.cell? ⟨(a2.add (i * 10)).block, (a2.add (i * 10)).off + 4, none⟩ = some (.int .i64 et) ∧ w1.cell? ⟨(a2.add (i * 10)).block, (a2.add (i * 10)).off + 5, none⟩ = some (.bool oo) ∧ w1.cell? ⟨(a2.add (i * 10)).block, (a2.add (i * 10)).off + 6, none⟩ = some (.int .i64 oa) ∧ w1.cell? ⟨(a2.add (i * 10)).block, (a2.add (i * 10)).off + 7, none⟩ = some (.int .i64 ob) ∧ w1.cell? ⟨(a2.add (i * 10)).block, (a2.add (i * 10)).off + 8, none⟩ = some (.int .i64 ot) ∧ w1.cell? ⟨(a2.add (i * 10)).block, (a2.add (i * 10)).off + 9, none⟩ = some (.int .i64 f) ∧ Below w.heap.size w w1 := hS
      clear hS
      have hS := hT
      obtain ⟨c0, c1, c2, c3, c4, c5, c6, c7, c8, c9, c10, c11, c12, c13, c14, c15, c16, c17, c18, c19, c20, c21, c22, c23, hB⟩ := hT
      have hzw : w.heap.size ≤ w1.heap.size := hB.size
      have hz1 : w.heap.size < w1.heap.size := World.block_lt_of_cell? w1 _ (hS.1)
      have hz2 : w.heap.size + 1 < w1.heap.size := World.block_lt_of_cell? w1 _ (hS.2.2.1)
      go_wp2
      go_roundw
      case rel => exact ⟨i + 1, by omega, by go_num, by first | (with_reducible assumption) | (exact hS) | (exact ⟨hS.1, hS.2.1, hS.2.2.1, hS.2.2.2.1, (by go_grown)⟩) | (exact ⟨(by first | (with_reducible assumption) | (simp [go_sem]; done) | ((simp only [go_sem]); (with_reducible assumption)) | ((refine keep_cell ?_ (by with_reducible assumption)); go_grown; done) | (simp [go_sem, *]; done)), (by first | (with_reducible assumption) | (simp [go_sem]; done) | ((simp only [go_sem]); (with_reducible assumption)) | ((refine keep_cell ?_ (by with_reducible assumption)); go_grown; done) | (simp [go_sem, *]; done)), (by first | (with_reducible assumption) | (simp [go_sem]; done) | ((simp only [go_sem]); (with_reducible assumption)) | ((refine keep_cell ?_ (by with_reducible assumption)); go_grown; done) | (simp [go_sem, *]; done)), (by first | (with_reducible assumption) | (simp [go_sem]; done) | ((simp only [go_sem]); (with_reducible assumption)) | ((refine keep_cell ?_ (by with_reducible assumption)); go_grown; done) | (simp [go_sem, *]; done)), (by go_grown)⟩)⟩
      case measure => simp [intOf]; omega
    obtain rfl : i = l.length := by omega
    go_wp2
    go_returns
    exact ⟨ret_eq rfl, by go_grown⟩
set_option maxHeartbeats 2000000 in
theorem vHas_c (A : Option Addr) (c : Nat) (l : List Int) (x : Int) (w : World) (h1 : Hid (Reads w w.heap.size 1 A l.length (ints l))) (b1 : l.length ≤ 4000000)  : Calls Try.prog 27 #[.slice A l.length c, .int .i64 x] w (Gives w (.bool (decide (x ∈ l)))) := by
  go_enter Try.func27, Try.ntmps27
  go_wp2
  go_loopw [5] (fun iv wr => ∃ i : Nat, i ≤ l.length ∧ iv = .int .i64 i ∧ Hid (x ∉ l.take i) ∧ Below w.heap.size w wr) (fun iv _ => l.length - (intOf iv).toNat)
  case atStart => exact ⟨0, by omega, rfl, hide (by simp), Below.refl _ _⟩
  case round =>
    obtain ⟨i, hi, rfl, HN, hB⟩ := hrel
    by_cases hlt : i < l.length
    rotate_left
    · obtain rfl : i = l.length := by omega
      have HF := hide (show decide (x ∈ l) = false from decide_eq_false (by have h9 := HN.out; rwa [List.take_length] at h9))
      go_wp2
      go_returns
      exact ⟨ret_eq (by rw [HF.out]; simp), by go_grown⟩
    obtain ⟨ad, rfl, hb, hc⟩ := (h1.out.below hB).num (k := i) (by omega)
    obtain ⟨y, hy⟩ : ∃ y, nth l i = y := ⟨_, rfl⟩
    rw [hy] at hc
    have HY := hide hy
    clear hy
    by_cases hq : y = x
    · have HF := hide (show decide (x ∈ l) = true from decide_eq_true (by have h9 := nth_mem hlt; rw [HY.out, hq] at h9; exact h9))
      have hqb : (y == x) = true := beq_iff_eq.2 hq
      clear hq
      go_wp2
      go_returns
      exact ⟨ret_eq (by rw [HF.out]; simp), by go_grown⟩
    have HN2 := hide (show x ∉ l.take (i + 1) from by rw [take_num l i hlt, List.mem_append, HY.out]; intro h; rcases h with h | h; exact HN.out h; exact hq (by simp at h; exact h.symm))
    have hqb : (y == x) = false := beq_eq_false_iff_ne.2 hq
    clear hq
    go_wp2
    go_roundw
    case rel => exact ⟨i + 1, by omega, by go_num, HN2, by go_grown⟩
    case measure => simp [intOf]; omega
end Go.Proofs.Ytbeojfhakmbacaa
namespace Go.Proofs.Ytbeojfhakmbacaa
open Go.RowKit
theorem kpt_bd {r : Rp} {t : Int} {o : Bool} {m : Int} (h : kpt r t o m = true) : -1 ≤ t ∧ (t = -1 ∨ (0 ≤ t ∧ t ≤ m)) := by
  unfold kpt at h
  split at h
  · omega
  · simp only [Bool.and_eq_true] at h
    have := wi_iff.1 h.1
    omega
theorem okH_bd {m : Int} {l : List Hd} {i : Nat} {a : Int} {eo : Bool} {ea eb et : Int} {oo : Bool} {oa ob ot f : Int} (h : okR m l = true) (hi : i < l.length) (e : hx l i = (a, (eo, ea, eb), et, (oo, oa, ob), ot, f)) :
    ((0 ≤ m ∧ m ≤ 9999) ∧ 1 ≤ a ∧ a ≤ 65535) ∧ (1 ≤ f ∧ f ≤ 9999) ∧ (-1 ≤ et ∧ et ≤ m) ∧ -1 ≤ ot ∧ ot ≤ m := by
  obtain ⟨hm, _, hn⟩ := okR_iff h
  have h2 := (hn i hi).1
  rw [okH_eq e] at h2
  simp only [Bool.and_eq_true] at h2
  obtain ⟨⟨h3, h4⟩, h5, h6⟩ := h2
  have m1 := wi_iff.1 hm
  have m2 := wi_iff.1 h3
  have m3 := wi_iff.1 h4
  have m4 := kpt_bd h5
  have m5 := kpt_bd h6
  omega
def noL (l : List Hd) (x : Int) (i : Nat) : Prop := ∀ j, j < i → (hx l j).1 ≠ x
theorem noL_zero {l : List Hd} {x : Int} : noL l x 0 := fun _ h => absurd h (by omega)
theorem noL_succ {l : List Hd} {x : Int} {i : Nat} (h : noL l x i) (e : (hx l i).1 ≠ x) : noL l x (i + 1) := by
  intro j hj
  by_cases k : j = i
  · subst k; exact e
  · exact h j (by omega)
def fndF (l : List Hd) (x : Int) : Nat → Nat → Int
  | 0, _ => -1
  | n + 1, i => if (hx l i).1 = x then (i : Int) else fndF l x n (i + 1)
def fndV (l : List Hd) (x : Int) : Int := fndF l x l.length 0
theorem fndF_no {l : List Hd} {x : Int} : ∀ n i, (∀ j, i ≤ j → j < i + n → (hx l j).1 ≠ x) → fndF l x n i = -1
  | 0, _, _ => rfl
  | n + 1, i, h => by rw [fndF, if_neg (h i (by omega) (by omega))]; exact fndF_no n (i + 1) fun j h1 h2 => h j (by omega) (by omega)
theorem fndF_yes {l : List Hd} {x : Int} {k : Nat} (e : (hx l k).1 = x) : ∀ n i, i ≤ k → k < i + n → (∀ j, i ≤ j → j < k → (hx l j).1 ≠ x) → fndF l x n i = (k : Int)
  | 0, i, h1, h2, _ => by omega
  | n + 1, i, h1, h2, h => by
    rw [fndF]
    by_cases hk : i = k
    · subst hk; rw [if_pos e]
    · rw [if_neg (h i (by omega) (by omega))]; exact fndF_yes e n (i + 1) (by omega) (by omega) fun j h3 h4 => h j (by omega) h4
theorem fnd_some {l : List Hd} {x : Int} {i : Nat} (hi : i < l.length) (h : noL l x i) (e : (hx l i).1 = x) : fndV l x = (i : Int) := fndF_yes e _ _ (by omega) (by omega) fun j _ h2 => h j h2
theorem fnd_none {l : List Hd} {x : Int} (h : noL l x l.length) : fndV l x = -1 := fndF_no _ _ fun j _ h2 => h j (by omega)
theorem fndF_cases (l : List Hd) (x : Int) : ∀ n i, fndF l x n i = -1 ∨ ∃ k : Nat, i ≤ k ∧ k < i + n ∧ fndF l x n i = (k : Int)
  | 0, _ => .inl rfl
  | n + 1, i => by
    rw [fndF]
    split
    · exact .inr ⟨i, by omega, by omega, rfl⟩
    · rcases fndF_cases l x n (i + 1) with h | ⟨k, h1, h2, h3⟩
      · exact .inl h
      · exact .inr ⟨k, by omega, by omega, h3⟩
theorem fnd_cases (l : List Hd) (x : Int) : fndV l x = -1 ∨ ∃ k : Nat, k < l.length ∧ fndV l x = (k : Int) := by
  rcases fndF_cases l x l.length 0 with h | ⟨k, _, h2, h3⟩
  · exact .inl h
  · exact .inr ⟨k, by omega, h3⟩
/-! ### All frames -/
def totF (l : List Hd) : Int := (l.map fun h => h.2.2.2.2.2).sum
def tfV (m : Int) (l : List Hd) : Int := if okR m l = true then totF l else 0
theorem tot_nil (l : List Hd) : totF (l.take 0) = 0 := by simp [totF]
theorem tot_succ {l : List Hd} {i : Nat} (hi : i < l.length) {f : Int} (e : (hx l i).2.2.2.2.2 = f) : totF (l.take (i + 1)) = totF (l.take i) + f := by
  rw [take_hd l i hi]; simp [totF, e]
/-! ### What was heard of one -/
def hfK (m : Int) (l : List Hd) (x : Int) : Bool := okR m l && decide (0 ≤ fndV l x)
def hfV (m : Int) (l : List Hd) (x : Int) : Hd := if hfK m l x = true then hx l (fndV l x).toNat else nHd
theorem hf_none {m : Int} {l : List Hd} {x : Int} (h : fndV l x = -1) : hfK m l x = false ∧ hfV m l x = nHd := by
  have e : hfK m l x = false := by unfold hfK; rw [h]; simp
  exact ⟨e, by unfold hfV; rw [if_neg (by rw [e]; decide)]⟩
theorem hf_bad {m : Int} {l : List Hd} {x : Int} (h : okR m l = false) : hfK m l x = false ∧ hfV m l x = nHd := by
  have e : hfK m l x = false := by unfold hfK; rw [h]; rfl
  exact ⟨e, by unfold hfV; rw [if_neg (by rw [e]; decide)]⟩
theorem hf_some {m : Int} {l : List Hd} {x : Int} {k : Nat} {q : Hd} (h0 : okR m l = true) (h : fndV l x = (k : Int)) (e : hx l k = q) : hfK m l x = true ∧ hfV m l x = q := by
  have e2 : hfK m l x = true := by unfold hfK; rw [h0, h]; simp
  exact ⟨e2, by unfold hfV; rw [if_pos e2, h, Int.toNat_natCast, e]⟩
/-! ### Positions -/
def frs (t m : Int) : Bool := decide (0 ≤ t) && decide (m - t ≤ 10)
def pnF (m : Int) (h : Hd) : Bool := frs h.2.2.1 m && frs h.2.2.2.2.1 m
def pnK (m : Int) (h : Hd) : Bool := pnF m h && dpK h.2.1.1 h.2.1.2.1 h.2.1.2.2 h.2.2.2.1.1 h.2.2.2.1.2.1 h.2.2.2.1.2.2
def pnX (m : Int) (h : Hd) : Int := if pnF m h = true then dpX h.2.1.1 h.2.1.2.1 h.2.1.2.2 h.2.2.2.1.1 h.2.2.2.1.2.1 h.2.2.2.1.2.2 else 0
def pnY (m : Int) (h : Hd) : Int := if pnF m h = true then dpY h.2.1.1 h.2.1.2.1 h.2.1.2.2 h.2.2.2.1.1 h.2.2.2.1.2.1 h.2.2.2.1.2.2 else 0
theorem pn_no {m : Int} {h : Hd} (e : pnF m h = false) : pnK m h = false ∧ pnX m h = 0 ∧ pnY m h = 0 := ⟨by unfold pnK; rw [e]; rfl, by unfold pnX; rw [if_neg (by rw [e]; decide)], by unfold pnY; rw [if_neg (by rw [e]; decide)]⟩
theorem pn_yes {m a : Int} {eo : Bool} {ea eb et : Int} {oo : Bool} {oa ob ot f : Int} (e : pnF m (a, (eo, ea, eb), et, (oo, oa, ob), ot, f) = true) :
    pnK m (a, (eo, ea, eb), et, (oo, oa, ob), ot, f) = dpK eo ea eb oo oa ob ∧ pnX m (a, (eo, ea, eb), et, (oo, oa, ob), ot, f) = dpX eo ea eb oo oa ob ∧ pnY m (a, (eo, ea, eb), et, (oo, oa, ob), ot, f) = dpY eo ea eb oo oa ob :=
  ⟨by unfold pnK; rw [e]; rfl, by unfold pnX; rw [if_pos e], by unfold pnY; rw [if_pos e]⟩
def ppK (m : Int) (l : List Hd) (x : Int) : Bool := hfK m l x && pnK m (hfV m l x)
def ppX (m : Int) (l : List Hd) (x : Int) : Int := if hfK m l x = true then pnX m (hfV m l x) else 0
def ppY (m : Int) (l : List Hd) (x : Int) : Int := if hfK m l x = true then pnY m (hfV m l x) else 0
theorem pp_no {m : Int} {l : List Hd} {x : Int} (e : hfK m l x = false) : ppK m l x = false ∧ ppX m l x = 0 ∧ ppY m l x = 0 := ⟨by unfold ppK; rw [e]; rfl, by unfold ppX; rw [if_neg (by rw [e]; decide)], by unfold ppY; rw [if_neg (by rw [e]; decide)]⟩
theorem pp_yes {m : Int} {l : List Hd} {x : Int} {q : Hd} (e : hfK m l x = true) (h : hfV m l x = q) : ppK m l x = pnK m q ∧ ppX m l x = pnX m q ∧ ppY m l x = pnY m q := ⟨by unfold ppK; rw [e, h]; rfl, by unfold ppX; rw [if_pos e, h], by unfold ppY; rw [if_pos e, h]⟩
end Go.Proofs.Ytbeojfhakmbacaa
namespace Go.Proofs.Ytbeojfhakmbacaa
open Go.RowKit
/-! ### Time that passes -/
/-! ### Those with a position -/
def faS (m : Int) (h : Hd) : List Int := if pnK m h = true then [h.1] else []
def faL (m : Int) (l : List Hd) : List Int := l.flatMap (faS m)
theorem faL_succ {m : Int} {l : List Hd} {i : Nat} (h : i < l.length) : faL m (l.take (i + 1)) = faL m (l.take i) ++ faS m (hx l i) := by rw [take_hd l i h]; simp [faL]
theorem faL_len (m : Int) : ∀ l : List Hd, (faL m l).length ≤ l.length
  | [] => Nat.le_refl _
  | h :: l => by
    have h1 := faL_len m l
    have h2 : (faS m h).length ≤ 1 := by unfold faS; split <;> simp
    show (faS m h ++ faL m l).length ≤ _
    rw [List.length_append, List.length_cons]; omega
def faV (m : Int) (l : List Hd) : List Int := if okR m l = true then faL m l else []
theorem faV_len (m : Int) (l : List Hd) : (faV m l).length ≤ l.length := by
  unfold faV; split
  · exact faL_len m l
  · simp
end Go.Proofs.Ytbeojfhakmbacaa
namespace Go.Proofs.Ytbeojfhakmbacaa
open Go.RowKit
def str (l : List UInt8) : ByteArray := ⟨l.toArray⟩
theorem str_size (l : List UInt8) : (str l).size = l.length := by simp [str, ByteArray.size]
theorem str_list (l : List UInt8) : (str l).data.toList = l := by simp [str]
theorem str_app (a b : List UInt8) : str a ++ str b = str (a ++ b) := ByteArray.mk_append_mk a b
def bit (n : Int) : UInt8 := if n % 2 = 0 then 48 else 49
def bitsL (n : Int) : Nat → List UInt8
  | 0 => []
  | k + 1 => bit (n / 2 ^ k) :: bitsL n k
theorem bitsL_len (n : Int) : ∀ k, (bitsL n k).length = k
  | 0 => rfl
  | k + 1 => by simp [bitsL, bitsL_len n k]
def isB (l : List UInt8) : Prop := ∀ c ∈ l, c = 48 ∨ c = 49
theorem bit_isB (n : Int) : bit n = 48 ∨ bit n = 49 := by unfold bit; split <;> simp
theorem isB_nil : isB [] := fun _ h => by cases h
theorem isB_cons {c : UInt8} {l : List UInt8} (h : c = 48 ∨ c = 49) (hl : isB l) : isB (c :: l) := fun x hx => by
  rcases List.mem_cons.1 hx with e | e
  · rw [e]; exact h
  · exact hl x e
theorem isB_app {a b : List UInt8} (ha : isB a) (hb : isB b) : isB (a ++ b) := fun x hx => by
  rcases List.mem_append.1 hx with e | e
  · exact ha x e
  · exact hb x e
theorem bitsL_isB (n : Int) : ∀ k, isB (bitsL n k)
  | 0 => isB_nil
  | k + 1 => isB_cons (bit_isB _) (bitsL_isB n k)
def numL (l : List UInt8) : Int := l.foldl (fun a c => 2 * a + (c.toNat : Int) - 48) 0
theorem numL_snoc (l : List UInt8) (c : UInt8) : numL (l ++ [c]) = 2 * numL l + (c.toNat : Int) - 48 := by simp [numL]
theorem foldl_num (l : List UInt8) : ∀ a : Int, l.foldl (fun a c => 2 * a + (c.toNat : Int) - 48) a = a * 2 ^ l.length + numL l := by
  induction l with
  | nil => intro a; simp [numL]
  | cons c l ih =>
    intro a
    have e : numL (c :: l) = (2 * 0 + (c.toNat : Int) - 48) * 2 ^ l.length + numL l := by
      show List.foldl _ _ (c :: l) = _
      rw [List.foldl_cons, ih]
    rw [List.foldl_cons, ih, e, List.length_cons, Int.pow_succ]
    have : (2 * a + (c.toNat : Int) - 48) * 2 ^ l.length = a * (2 ^ l.length * 2) + (2 * 0 + (c.toNat : Int) - 48) * 2 ^ l.length := by
      rw [Int.mul_comm (2 ^ l.length) 2, ← Int.mul_assoc, Int.mul_comm a 2, ← Int.add_mul]
      congr 1
      omega
    omega
theorem numL_app (a b : List UInt8) : numL (a ++ b) = numL a * 2 ^ b.length + numL b := by
  show List.foldl _ _ (a ++ b) = _
  rw [List.foldl_append, foldl_num]; rfl
theorem numL_cons (c : UInt8) (l : List UInt8) : numL (c :: l) = ((c.toNat : Int) - 48) * 2 ^ l.length + numL l := by
  have h := numL_app [c] l
  rw [List.singleton_append] at h
  rw [h]; congr 2; simp [numL]
theorem numL_bd {l : List UInt8} (h : isB l) : 0 ≤ numL l ∧ numL l < 2 ^ l.length := by
  induction l with
  | nil => simp [numL]
  | cons c l ih =>
    have h1 := ih fun x hx => h x (List.mem_cons_of_mem _ hx)
    have h2 := h c List.mem_cons_self
    rw [numL_cons, List.length_cons, Int.pow_succ]
    generalize (2 : Int) ^ l.length = z at *
    have h48 : (UInt8.toNat 48 : Int) = 48 := rfl
    have h49 : (UInt8.toNat 49 : Int) = 49 := rfl
    rcases h2 with e | e <;> subst e
    · rw [h48]; omega
    · rw [h49]; omega
theorem bit_val (n : Int) : ((bit n).toNat : Int) - 48 = n % 2 := by
  unfold bit
  have h48 : (UInt8.toNat 48 : Int) = 48 := rfl
  have h49 : (UInt8.toNat 49 : Int) = 49 := rfl
  split
  · rw [h48]; omega
  · rw [h49]; omega
theorem take_snoc (s : ByteArray) (k : Nat) (h : k < s.size) : s.data.toList.take (k + 1) = s.data.toList.take k ++ [s[k]] := by
  rw [List.take_succ_eq_append_getElem (by simpa using h)]; rfl
theorem div_pow_succ (n : Int) (k : Nat) : n / 2 ^ k / 2 = n / 2 ^ (k + 1) := by
  rw [Int.pow_succ, Int.ediv_ediv_of_nonneg (Int.le_of_lt (Int.pow_pos (by omega)))]
end Go.Proofs.Ytbeojfhakmbacaa
namespace Go.Proofs.Ytbeojfhakmbacaa
def xr (a b : Int) : Int := ((a.toNat ^^^ b.toNat : Nat) : Int)
theorem i64_xor {a b : Int} (h1 : 0 ≤ a) (h2 : a < 1099511627776) (h3 : 0 ≤ b) (h4 : b < 1099511627776) : bits .xor .i64 a b = xr a b := by
  obtain ⟨A, rfl⟩ := Int.eq_ofNat_of_zero_le h1
  obtain ⟨B, rfl⟩ := Int.eq_ofNat_of_zero_le h3
  have hx : A ^^^ B < 2 ^ 40 := Nat.xor_lt_two_pow (by omega) (by omega)
  show IntKind.i64.wrap ((BitVec.ofInt 64 (A : Int) ^^^ BitVec.ofInt 64 (B : Int)).toNat : Int) = _
  have oA : (BitVec.ofInt 64 (A : Int)).toNat = A := by rw [BitVec.ofInt_natCast, BitVec.toNat_ofNat]; exact Nat.mod_eq_of_lt (by omega)
  have oB : (BitVec.ofInt 64 (B : Int)).toNat = B := by rw [BitVec.ofInt_natCast, BitVec.toNat_ofNat]; exact Nat.mod_eq_of_lt (by omega)
  rw [BitVec.toNat_xor, oA, oB, IntWalk.i64_in _ (by omega)]
  simp [xr]
def fgF : Nat → Int → Int → Int
  | 0, n, _ => n
  | f + 1, n, g => if g > 0 then fgF f (xr n g) (g / 2) else n
def fg (g : Int) : Int := fgF 11 0 g
def popL (n : Int) : Nat → Int
  | 0 => 0
  | k + 1 => (n / 2 ^ k) % 2 + popL n k
def onesL (l : List UInt8) : Int := (l.filter (· == 49)).length
def decOk (c : Int) : Bool := wi c 2048 4095 || (wi c 0 2047 && decide (fg c ≤ 1279))
def cbK (a b : Int) : Bool := decOk a && decOk b
def cb (a b : Int) : Int := if cbK a b = true then popL (xr a b) 12 else 0
end Go.Proofs.Ytbeojfhakmbacaa
