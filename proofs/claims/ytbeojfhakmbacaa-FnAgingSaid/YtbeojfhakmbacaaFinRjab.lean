/- What is proved here is used by the law below: contracts of functions and plain lemmas (part 2 of 17). Their conditions stand in each. -/
import Derived.Orders
import Derived.RegionTactic
import Derived.BigCall
import Derived.Maps.AppendAt
import Derived.Test.YtbeojfhakmbacaaProg
import Derived.Test.YtbeojfhakmbacaaFinRjaa
namespace Go.Proofs.Ytbeojfhakmbacaa
open Go
section
variable {P : Program} {S : World → Prop}
def Lands (P : Program) (S : World → Prop) (x : Sem Next) (v : Value) : Prop :=
  ∀ w, S w → match x.run P w with
    | .ok (.value u) w' => u = v ∧ S w'
    | .ok (.enter f args) w' => Calls P f args w' fun e w'' => e = .returned v ∧ S w''
    | .ok .skip w' => v = undef ∧ S w'
    | _ => False
theorem Lands.wp {o : Oper} {a : Act} {v : Value} (h : Lands P S (execOp a.eval o) v) {w : World} (hS : S w) {K : Act → World → Prop} {Q : Exit → Act → World → Prop}
    (hK : ∀ w', S w' → K (a.put o.dst v) w') : o.wp P a w K Q := by
  have h1 := h w hS
  unfold Oper.wp
  generalize (execOp a.eval o).run P w = r at h1
  cases r with
  | ok n w' =>
    cases n <;> simp only at h1 <;> simp only [Oper.upon]
    case value u => obtain ⟨rfl, h2⟩ := h1; exact hK _ h2
    case skip => obtain ⟨rfl, h2⟩ := h1; exact hK _ h2
    case enter f args => exact h1.mono fun e w'' ⟨he, h2⟩ => by subst he; exact hK _ h2
  | halt x w' => exact h1.elim
def LandsAt (P : Program) (ops : Array Oper) (S : World → Prop) (o : Oper) (v : Value) (a : Act) : Prop :=
  (Region.wanted o (yielded ops a.tmps) = true ∧ Lands P S (execOp a.eval o) v) ∨ (Region.wanted o (yielded ops a.tmps) = false ∧ v = undef)
def wpDet (P : Program) (ops : Array Oper) (S : World → Prop) (R : Act → Prop) : List Oper → Act → Prop
  | [], a => R a
  | o :: rest, a => ∃ v, LandsAt P ops S o v a ∧ wpDet P ops S R rest (a.put o.dst v)
def stateAt (a : Act) (ps : List (Oper × Value)) (k : Nat) : Act := (ps.take k).foldl (fun a p => a.put p.1.dst p.2) a
theorem stateAt_succ {a : Act} {ps : List (Oper × Value)} {k : Nat} {o : Oper} {v : Value} (h : ps[k]? = some (o, v)) : stateAt a ps (k + 1) = (stateAt a ps k).put o.dst v := by
  simp [stateAt, List.take_add_one, h, List.foldl_append]
theorem wpDet_pairs {ops : Array Oper} {R : Act → Prop} : ∀ (l : List Oper) (a : Act), wpDet P ops S R l a →
    ∃ ps : List (Oper × Value), ps.map (·.1) = l ∧ (∀ k o v, ps[k]? = some (o, v) → LandsAt P ops S o v (stateAt a ps k)) ∧ R (stateAt a ps ps.length)
  | [], a, h => ⟨[], rfl, by simp, by simpa [stateAt, wpDet] using h⟩
  | o :: rest, a, ⟨v, hv, h⟩ => by
    obtain ⟨ps, h1, h2, h3⟩ := wpDet_pairs rest _ h
    refine ⟨(o, v) :: ps, by simp [h1], fun k o' v' hk => ?_, by simpa [stateAt] using h3⟩
    cases k with
    | zero => simp at hk; obtain ⟨rfl, rfl⟩ := hk; simpa [stateAt] using hv
    | succ k => simpa [stateAt] using h2 k o' v' (by simpa using hk)
def seqOk (ops : Array Oper) : Bool :=
  (List.range ops.size).all fun j => match ops[j]? with
    | none => true
    | some oj => (match oj.op with | .select .. => false | _ => true) && oj.after.toList.all (fun e => !Region.binds .any e || decide (e.on < j)) &&
      (List.range j).all fun i => match ops[i]? with
        | none => true
        | some oi => oi.apart ops oj || oj.after.toList.any (fun e => Region.binds .any e && e.on == i)
theorem seqOk_spec {ops : Array Oper} (h : seqOk ops = true) {j : Nat} {oj : Oper} (hj : ops[j]? = some oj) :
    (∀ cs b, oj.op ≠ .select cs b) ∧ (∀ e ∈ oj.after, Region.binds .any e = true → e.on < j) ∧
    ∀ i oi, i < j → ops[i]? = some oi → oi.apart ops oj = true ∨ ∃ e ∈ oj.after, Region.binds .any e = true ∧ e.on = i := by
  have hlt : j < ops.size := (Array.getElem?_eq_some_iff.1 hj).1
  have h1 := List.all_eq_true.1 h j (by simpa using hlt)
  simp only [hj, Bool.and_eq_true] at h1
  obtain ⟨⟨h2, h3⟩, h4⟩ := h1
  refine ⟨fun cs b e => by rw [e] at h2; simp at h2, fun e he hb => ?_, fun i oi hi hoi => ?_⟩
  · have := List.all_eq_true.1 h3 e (by simpa using he)
    simpa [hb] using this
  · have := List.all_eq_true.1 h4 i (by simpa using hi)
    simp only [hoi, Bool.or_eq_true] at this
    refine this.imp id fun h5 => ?_
    obtain ⟨e, he, hb⟩ := List.any_eq_true.1 h5
    simp only [Bool.and_eq_true, beq_iff_eq] at hb
    exact ⟨e, by simpa using he, hb.1, hb.2⟩
structure Inv (ops : Array Oper) (A : Nat → Act) (listed : Array Bool) (a : Act) : Prop where
  size : listed.size = ops.size
  down : ∀ (j : Nat) oj, ops[j]? = some oj → listed.getD j true = true → ∀ e ∈ oj.after, Region.binds .any e = true → listed.getD e.on false = true
  defers : a.defers = (A 0).defers
  tsize : a.tmps.size = (A 0).tmps.size
  slots : ∀ (t k : Nat), (∀ (j : Nat) oj, ops[j]? = some oj → oj.dst = some t → (listed.getD j true = true ↔ j < k)) → a.tmps[t]? = (A k).tmps[t]?
theorem Act.eval_of_slots {a b : Act} {x : Operand} (h : ∀ t, x = .tmp t → a.tmps[t]? = b.tmps[t]?) : a.eval x = b.eval x := by
  cases x with
  | tmp t => simp [Act.eval, h t rfl]
  | _ => rfl
theorem same_exec {ops : Array Oper} {o : Oper} {a b : Act} (hs : ∀ cs d, o.op ≠ .select cs d) (h : ∀ t ∈ o.looksAt ops, a.tmps[t]? = b.tmps[t]?) :
    execOp a.eval o = execOp b.eval o ∧ Region.wanted o (yielded ops a.tmps) = Region.wanted o (yielded ops b.tmps) := by
  constructor
  · refine execOp_congr o hs fun x hx => Act.eval_of_slots fun t ht => h t ?_
    subst ht
    exact List.mem_append_left _ (List.mem_filterMap.2 ⟨.tmp t, by simpa using hx, rfl⟩)
  · unfold Region.wanted
    cases hg : o.guard with
    | none => rfl
    | some gw =>
      obtain ⟨g, want⟩ := gw
      have hy : yielded ops a.tmps g = yielded ops b.tmps g := by
        unfold yielded
        cases ht : (ops[g]?).bind (·.dst) with
        | none => rfl
        | some t =>
          have h1 := h t (List.mem_append_right _ (by simp [hg, ht]))
          simp [h1]
      simp only [hy]
theorem put_tmps_ne {a : Act} {d : Option Tmp} {v : Value} {t : Nat} (h : d ≠ some t) : (a.put d v).tmps[t]? = a.tmps[t]? := by
  cases d with
  | none => rfl
  | some d => simp only [Act.put]; rw [Array.getElem?_setIfInBounds_ne (fun e => h (by rw [e]))]
theorem put_size {a : Act} {d : Option Tmp} {v : Value} : (a.put d v).tmps.size = a.tmps.size := by cases d <;> simp [Act.put]
theorem put_defers {a : Act} {d : Option Tmp} {v : Value} : (a.put d v).defers = a.defers := by cases d <;> rfl
theorem put_tmps_eq {a b : Act} {t : Nat} {v : Value} (h : a.tmps.size = b.tmps.size) : (a.put (some t) v).tmps[t]? = (b.put (some t) v).tmps[t]? := by
  simp only [Act.put, Array.getElem?_setIfInBounds, if_true, h]
theorem no_writer {A : Nat → Act} {ps : List (Oper × Value)} (hA : ∀ (k : Nat) (o : Oper) (v : Value), ps[k]? = some (o, v) → A (k + 1) = (A k).put o.dst v) (hN : ∀ k, ps.length ≤ k → A (k + 1) = A k) {t : Nat} :
    ∀ (d i : Nat), (∀ j o v, i ≤ j → j < i + d → ps[j]? = some (o, v) → o.dst ≠ some t) → (A (i + d)).tmps[t]? = (A i).tmps[t]?
  | 0, i, _ => rfl
  | d + 1, i, h => by
    have h1 := no_writer hA hN d i (fun j o v a b => h j o v a (by omega))
    rw [← h1]
    show (A (i + d + 1)).tmps[t]? = _
    cases hp : ps[i + d]? with
    | none => rw [hN _ (by simpa using hp)]
    | some p =>
      obtain ⟨o, v⟩ := p
      rw [hA _ o v hp, put_tmps_ne (h _ o v (by omega) (by omega) hp)]
theorem ready_spec {ops : Array Oper} {listed : Array Bool} {i : Nat} (h : i ∈ Region.ready .any ops listed) :
    listed.getD i true = false ∧ ∃ o, ops[i]? = some o ∧ ∀ e ∈ o.after, Region.binds .any e = true → listed.getD e.on false = true := by
  unfold Region.ready at h
  simp only [List.mem_filter, List.mem_range, Bool.and_eq_true, Bool.not_eq_true'] at h
  obtain ⟨hlt, h1, h2⟩ := h
  refine ⟨h1, ops[i], Array.getElem?_eq_getElem hlt, fun e he hb => ?_⟩
  rw [Array.getElem?_eq_getElem hlt] at h2
  simp only [Option.map_some, Option.getD_some, Array.all_eq_true_iff_forall_mem, Bool.or_eq_true, Bool.not_eq_true'] at h2
  rcases h2 e he with h3 | h3
  · rw [hb] at h3; cases h3
  · exact h3
theorem all_listed {ops : Array Oper} {listed : Array Bool} (hs : listed.size = ops.size) (hok : seqOk ops = true) (h : Region.ready .any ops listed = []) : ∀ j, listed.getD j true = true := by
  intro j
  induction j using Nat.strongRecOn with
  | _ j ih =>
    rcases Nat.lt_or_ge j listed.size with hlt | hge
    · cases hl : listed.getD j true with
      | true => rfl
      | false =>
        exfalso
        have hlo : j < ops.size := by omega
        obtain ⟨_, he, _⟩ := seqOk_spec hok (Array.getElem?_eq_getElem hlo)
        have hm : j ∈ Region.ready .any ops listed := by
          unfold Region.ready
          simp only [List.mem_filter, List.mem_range, Bool.and_eq_true, Bool.not_eq_true']
          refine ⟨hlo, hl, ?_⟩
          rw [Array.getElem?_eq_getElem hlo]
          simp only [Option.map_some, Option.getD_some, Array.all_eq_true_iff_forall_mem, Bool.or_eq_true, Bool.not_eq_true']
          intro e hem
          cases hb : Region.binds .any e with
          | false => exact .inl rfl
          | true =>
            have h1 := he e hem hb
            have h2 := ih e.on h1
            have h3 : e.on < listed.size := by omega
            simp only [Array.getD, h3, dif_pos] at h2 ⊢
            exact .inr h2
        rw [h] at hm
        cases hm
    · simp [Array.getD, Nat.not_lt.2 hge]
theorem getD_set {l : Array Bool} {i j : Nat} {d : Bool} (hi : i < l.size) : (l.setIfInBounds i true).getD j d = if j = i then true else l.getD j d := by
  simp only [Array.getD_eq_getD_getElem?, Array.getElem?_setIfInBounds]
  by_cases h : i = j
  · subst h; simp [hi]
  · simp [h, Ne.symm h]
theorem count_set {l : Array Bool} {i n : Nat} (hi : l.getD i true = false) (h : l.toList.count false ≤ n + 1) : (l.setIfInBounds i true).toList.count false ≤ n := by
  have hlt : i < l.size := by
    rcases Nat.lt_or_ge i l.size with h1 | h1
    · exact h1
    · simp [Array.getD, Nat.not_lt.2 h1] at hi
  have hv : l[i] = false := by simpa [Array.getD, hlt] using hi
  have hv2 : l.toList[i]'(by simpa using hlt) = false := by simpa using hv
  rw [Array.toList_setIfInBounds, List.count_set (by simpa using hlt), hv2]
  have e1 : (if (false == false) = true then 1 else 0) = 1 := rfl
  have e2 : (if (true == false) = true then 1 else 0) = 0 := rfl
  rw [e1, e2]
  omega
theorem inv_step {ops : Array Oper} {A : Nat → Act} {ps : List (Oper × Value)} (hok : seqOk ops = true) (hps : ∀ (j : Nat) (o : Oper), ops[j]? = some o ↔ ∃ v : Value, ps[j]? = some (o, v))
    (hA : ∀ (k : Nat) (o : Oper) (v : Value), ps[k]? = some (o, v) → A (k + 1) = (A k).put o.dst v) (hN : ∀ k, ps.length ≤ k → A (k + 1) = A k)
    {listed : Array Bool} {a : Act} (I : Inv ops A listed a) {i : Nat} {o : Oper} {v : Value} (hr : i ∈ Region.ready .any ops listed) (hp : ps[i]? = some (o, v)) :
    Inv ops A (listed.setIfInBounds i true) (a.put o.dst v) := by
  obtain ⟨hu, o', ho, he⟩ := ready_spec hr
  have hlt : i < listed.size := by rw [I.size]; exact (Array.getElem?_eq_some_iff.1 ho).1
  obtain rfl : o = o' := by
    have := (hps i o).2 ⟨v, hp⟩
    rw [ho] at this
    exact (Option.some.inj this).symm
  have hs0 : ∀ k, (A k).tmps.size = (A 0).tmps.size := by
    intro k
    induction k with
    | zero => rfl
    | succ k ih =>
      cases hk : ps[k]? with
      | none => rw [hN k (by simpa using hk), ih]
      | some p => rw [hA k p.1 p.2 hk, put_size, ih]
  refine ⟨by simpa using I.size, fun j oj hj hl e hem hb => ?_, by rw [put_defers]; exact I.defers, by rw [put_size]; exact I.tsize, fun t k hk => ?_⟩
  · rw [getD_set hlt] at hl ⊢
    split
    · rfl
    · by_cases hji : j = i
      · subst hji
        rw [ho] at hj
        cases hj
        exact he e hem hb
      · rw [if_neg hji] at hl
        exact I.down j oj hj hl e hem hb
  · by_cases hd : o.dst = some t
    · have hik : i < k := (hk i o ho hd).1 (by rw [getD_set hlt, if_pos rfl])
      have hno := no_writer hA hN (t := t) (k - (i + 1)) (i + 1) (fun j oj vj h1 h2 hpj hdj => by
        have hoj := (hps j oj).2 ⟨vj, hpj⟩
        have hlj := (hk j oj hoj hdj).2 (by omega)
        rw [getD_set hlt, if_neg (by omega)] at hlj
        obtain ⟨_, _, h3⟩ := seqOk_spec hok hoj
        rcases h3 i o (by omega) ho with h4 | ⟨e, hem, hb, heq⟩
        · have := (Oper.apart_spec h4).2.1 t hd
          exact this hdj
        · have := I.down j oj hoj hlj e hem hb
          rw [heq] at this
          simp only [Array.getD, hlt, dif_pos] at this hu
          rw [this] at hu
          cases hu)
      rw [show i + 1 + (k - (i + 1)) = k from by omega] at hno
      rw [hno, hA i o v hp, hd]
      exact put_tmps_eq (I.tsize.trans (hs0 i).symm)
    · rw [put_tmps_ne hd]
      refine I.slots t k fun j oj hoj hdj => ?_
      rw [← hk j oj hoj hdj, getD_set hlt]
      by_cases hji : j = i
      · subst hji
        rw [ho] at hoj
        cases hoj
        exact absurd hdj hd
      · rw [if_neg hji]
theorem lands_at {ops : Array Oper} {A : Nat → Act} (hok : seqOk ops = true) {listed : Array Bool} {a : Act} (I : Inv ops A listed a) {i : Nat} {o : Oper} {v : Value}
    (hr : i ∈ Region.ready .any ops listed) (ho : ops[i]? = some o) (h : LandsAt P ops S o v (A i)) : LandsAt P ops S o v a := by
  obtain ⟨hu, o', ho', he⟩ := ready_spec hr
  rw [ho] at ho'
  cases ho'
  obtain ⟨hs, _, h3⟩ := seqOk_spec hok ho
  have hlt : i < listed.size := by rw [I.size]; exact (Array.getElem?_eq_some_iff.1 ho).1
  obtain ⟨e1, e2⟩ := same_exec (ops := ops) (a := a) (b := A i) hs (fun t ht => I.slots t i fun j oj hoj hdj => by
    constructor
    · intro hl
      rcases Nat.lt_trichotomy j i with h4 | h4 | h4
      · exact h4
      · subst h4; rw [hu] at hl; cases hl
      · exfalso
        obtain ⟨_, _, h5⟩ := seqOk_spec hok hoj
        rcases h5 i o h4 ho with h6 | ⟨e, hem, hb, heq⟩
        · exact (Oper.apart_spec h6).2.2 t hdj ht
        · have := I.down j oj hoj hl e hem hb
          rw [heq] at this
          simp only [Array.getD, hlt, dif_pos] at this hu
          rw [this] at hu
          cases hu
    · intro hji
      rcases h3 j oj hji hoj with h6 | ⟨e, hem, hb, heq⟩
      · exact absurd ht ((Oper.apart_spec h6).1 t hdj)
      · have := he e hem hb
        rw [heq] at this
        have hj : j < listed.size := by omega
        simp only [Array.getD, hj, dif_pos] at this ⊢
        exact this)
  unfold LandsAt at *
  rw [e1, e2]
  exact h
theorem det_any {ops : Array Oper} {A : Nat → Act} {ps : List (Oper × Value)} {Q : Exit → Act → World → Prop} (hok : seqOk ops = true) (hps : ∀ (j : Nat) (o : Oper), ops[j]? = some o ↔ ∃ v : Value, ps[j]? = some (o, v))
    (hA : ∀ (k : Nat) (o : Oper) (v : Value), ps[k]? = some (o, v) → A (k + 1) = (A k).put o.dst v) (hN : ∀ k, ps.length ≤ k → A (k + 1) = A k)
    (hL : ∀ (k : Nat) (o : Oper) (v : Value), ps[k]? = some (o, v) → LandsAt P ops S o v (A k)) (hQ : ∀ w, S w → Q .normal (A ps.length) w) (hlen : ps.length = ops.size) :
    ∀ (fuel : Nat) (listed : Array Bool) (a : Act) (w : World), Inv ops A listed a → S w → listed.toList.count false ≤ fuel → wpAny P .any ops Q fuel listed a w := by
  have hfin : ∀ (listed : Array Bool) (a : Act) (w : World), Inv ops A listed a → S w → (∀ j, listed.getD j true = true) → Q .normal a w := by
    intro listed a w I hS hall
    have : a = A ps.length := by
      have hs0 : ∀ k, (A k).tmps.size = (A 0).tmps.size ∧ (A k).defers = (A 0).defers := by
        intro k
        induction k with
        | zero => exact ⟨rfl, rfl⟩
        | succ k ih =>
          cases hk : ps[k]? with
          | none => rw [hN k (by simpa using hk)]; exact ih
          | some p => rw [hA k p.1 p.2 hk, put_size, put_defers]; exact ih
      obtain ⟨ta, da⟩ := a
      have e1 : ta = (A ps.length).tmps := Array.ext_getElem? fun t => I.slots t ps.length fun j oj hoj _ => by
        simp only [hall j, true_iff]
        rw [hlen]
        exact (Array.getElem?_eq_some_iff.1 hoj).1
      have e2 : da = (A ps.length).defers := I.defers.trans (hs0 _).2.symm
      rw [e1, e2]
    rw [this]
    exact hQ w hS
  intro fuel
  induction fuel with
  | zero =>
    intro listed a w I hS hc
    have hall : ∀ j, listed.getD j true = true := by
      intro j
      rcases Nat.lt_or_ge j listed.size with hlt | hge
      · cases hl : listed.getD j true with
        | true => rfl
        | false =>
          have hv : listed[j] = false := by simpa [Array.getD, hlt] using hl
          have hm : false ∈ listed.toList := by
            rw [← hv]
            exact Array.mem_toList_iff.2 (Array.getElem_mem hlt)
          have := List.count_pos_iff.2 hm
          omega
      · simp [Array.getD, Nat.not_lt.2 hge]
    refine ⟨?_, hfin listed a w I hS hall⟩
    rcases hr : Region.ready .any ops listed with _ | ⟨i, r⟩
    · rfl
    · have := (ready_spec (ops := ops) (listed := listed) (i := i) (by rw [hr]; simp)).1
      rw [hall] at this
      cases this
  | succ fuel ih =>
    intro listed a w I hS hc
    refine ⟨fun hr => hfin listed a w I hS (all_listed I.size hok hr), fun i hi => ?_⟩
    obtain ⟨hu, o, ho, he⟩ := ready_spec hi
    obtain ⟨v, hp⟩ := (hps i o).1 ho
    have hI := inv_step hok hps hA hN I hi hp
    have hl := lands_at hok I hi ho (hL i o v hp)
    have hc' := count_set hu hc
    unfold wpOp
    simp only [ho]
    rcases hl with ⟨hw, hl⟩ | ⟨hw, rfl⟩
    · rw [if_pos hw]
      exact .inl (hl.wp hS fun w' hS' => ih _ _ _ hI hS' hc')
    · rw [if_neg (by rw [hw]; simp)]
      exact ih _ _ _ hI hS hc'
theorem wp_region_det {id : Nat} {l : List Oper} {a : Act} {w : World} {Q : Exit → Act → World → Prop} (S : World → Prop) (hm : P.follows .mixedOrders = true) (hok : seqOk l.toArray = true) (hS : S w.drew)
    (h : wpDet P l.toArray S (fun a' => ∀ w', S w' → Q .normal a' w') l a) : (Code.region id l.toArray true).wp P Q a w := by
  refine wp_region_any hm ?_
  obtain ⟨ps, h1, h2, h3⟩ := wpDet_pairs l a h
  have hlen : ps.length = l.toArray.size := by rw [← h1]; simp
  refine det_any (S := S) (A := stateAt a ps) (ps := ps) hok (fun j o => ?_) (fun k o v hk => stateAt_succ hk) (fun k hk => ?_) h2 h3 hlen l.toArray.size _ a _ ?_ hS ?_
  · rw [← h1]
    simp only [List.getElem?_toArray, List.getElem?_map]
    cases hp : ps[j]? with
    | none => simp
    | some p =>
      obtain ⟨o', v'⟩ := p
      simp only [Option.map_some, Option.some.injEq, Prod.mk.injEq]
      exact ⟨fun e => ⟨v', e, rfl⟩, fun ⟨_, e, _⟩ => e⟩
  · simp [stateAt, List.take_of_length_le hk, List.take_of_length_le (Nat.le_succ_of_le hk)]
  · refine ⟨by simp, fun j oj hj hl => ?_, by simp [stateAt], by simp [stateAt], fun t k hk => ?_⟩
    · have hlt : j < l.toArray.size := (Array.getElem?_eq_some_iff.1 hj).1
      have hlt' : j < l.length := by simpa using hlt
      simp [Array.getD, hlt'] at hl
    · have := no_writer (A := stateAt a ps) (ps := ps) (t := t) (fun k o v hk => stateAt_succ hk) (fun k hk => by simp [stateAt, List.take_of_length_le hk, List.take_of_length_le (Nat.le_succ_of_le hk)]) k 0 (fun j o v _ hjk hpj hd => by
        have hoj : l.toArray[j]? = some o := by rw [← h1]; simp [hpj]
        have hlt : j < l.toArray.size := (Array.getElem?_eq_some_iff.1 hoj).1
        have hlt' : j < l.length := by simpa using hlt
        have := (hk j o hoj hd).2 (by omega)
        simp [Array.getD, hlt'] at this)
      rw [Nat.zero_add] at this
      rw [this]
      simp [stateAt]
  · exact Nat.le_trans List.count_le_length (by simp)
def belowOf (ops : Array Oper) : Nat → Nat → List Nat
  | 0, _ => []
  | n + 1, j => match ops[j]? with
    | none => []
    | some o => (o.after.toList.filter fun e => Region.binds .any e).flatMap fun e => e.on :: belowOf ops n e.on
def tailOk (ops : Array Oper) (m : Nat) : Bool :=
  (List.range ops.size).all fun j => decide (j < m) || (List.range j).all fun i => (belowOf ops ops.size j).contains i
theorem tailOk_spec {ops : Array Oper} {m : Nat} (h : tailOk ops m = true) {j : Nat} (hlt : j < ops.size) (hm : m ≤ j) {i : Nat} (hi : i < j) : i ∈ belowOf ops ops.size j := by
  have h1 := List.all_eq_true.1 h j (by simpa using hlt)
  simp only [Bool.or_eq_true, decide_eq_true_eq] at h1
  rcases h1 with h1 | h1
  · omega
  · simpa using List.all_eq_true.1 h1 i (by simpa using hi)
theorem below_listed {ops : Array Oper} {listed : Array Bool} (hdn : ∀ (j : Nat) oj, ops[j]? = some oj → listed.getD j true = true → ∀ e ∈ oj.after, Region.binds .any e = true → listed.getD e.on false = true)
    (hs : listed.size = ops.size) : ∀ (n j : Nat), (∀ oj, ops[j]? = some oj → ∀ e ∈ oj.after, Region.binds .any e = true → listed.getD e.on false = true) → ∀ i ∈ belowOf ops n j, listed.getD i false = true
  | 0, _, _, i, hi => by simp [belowOf] at hi
  | n + 1, j, hj, i, hi => by
    unfold belowOf at hi
    cases ho : ops[j]? with
    | none => rw [ho] at hi; simp at hi
    | some o =>
      rw [ho] at hi
      simp only [List.mem_flatMap, List.mem_filter, List.mem_cons] at hi
      obtain ⟨e, ⟨he, hb⟩, hi⟩ := hi
      have h1 := hj o ho e (by simpa using he) hb
      rcases hi with rfl | hi
      · exact h1
      · refine below_listed hdn hs n e.on (fun oj hoj => hdn e.on oj hoj ?_) i hi
        have hlt : e.on < ops.size := (Array.getElem?_eq_some_iff.1 hoj).1
        have hlt2 : e.on < listed.size := by omega
        simp only [Array.getD, hlt2, dif_pos] at h1 ⊢
        exact h1
theorem getD_both {listed : Array Bool} {j : Nat} (h : j < listed.size) : listed.getD j false = listed.getD j true := by simp [Array.getD, h]
/-! ### The same with stores: the world goes through phases, one store a phase -/
def LandsTo (P : Program) (S S' : World → Prop) (x : Sem Next) (v : Value) : Prop :=
  ∀ w, S w → match x.run P w with
    | .ok (.value u) w' => u = v ∧ S' w'
    | .ok (.enter f args) w' => Calls P f args w' fun e w'' => e = .returned v ∧ S' w''
    | .ok .skip w' => v = undef ∧ S' w'
    | _ => False
theorem LandsTo.wp {S S' : World → Prop} {o : Oper} {a : Act} {v : Value} (h : LandsTo P S S' (execOp a.eval o) v) {w : World} (hS : S w) {K : Act → World → Prop} {Q : Exit → Act → World → Prop}
    (hK : ∀ w', S' w' → K (a.put o.dst v) w') : o.wp P a w K Q := by
  have h1 := h w hS
  unfold Oper.wp
  generalize (execOp a.eval o).run P w = r at h1
  cases r with
  | ok n w' =>
    cases n <;> simp only at h1 <;> simp only [Oper.upon]
    case value u => obtain ⟨rfl, h2⟩ := h1; exact hK _ h2
    case skip => obtain ⟨rfl, h2⟩ := h1; exact hK _ h2
    case enter f args => exact h1.mono fun e w'' ⟨he, h2⟩ => by subst he; exact hK _ h2
  | halt x w' => exact h1.elim
def isPure (o : Oper) : Bool := match o.op with
  | .move _ | .assign _ | .pick .. | .build .. | .fieldAddr .. | .field .. | .binOp .. | .unOp .. | .extract .. | .nilCheck _ | .indexAddr .. | .index .. | .slice .. | .convert .. => true
  | .call { callee := .builtin .len, .. } | .call { callee := .builtin .max, .. } | .call { callee := .builtin .min, .. } => true
  | _ => false
def isEff (o : Oper) : Bool := match o.op with
  | .store .. => true
  | _ => false
def isFree (L : List Nat) (o : Oper) : Bool := !isEff o && (isPure o || match o.dst with | some d => L.contains d | none => false)
theorem eff_not_free {L : List Nat} {o : Oper} (h : isEff o = true) : isFree L o = false := by simp [isFree, h]
def phOk (L : List Nat) (ops : Array Oper) : Bool :=
  (List.range ops.size).all fun j => match ops[j]? with
    | none => true
    | some oj => (List.range j).all fun i => match ops[i]? with
      | none => true
      | some oi => isFree L oi || isFree L oj || !(isEff oi || isEff oj) || oj.after.toList.any (fun e => Region.binds .any e && e.on == i)
theorem phOk_spec {L : List Nat} {ops : Array Oper} (h : phOk L ops = true) {i j : Nat} {oi oj : Oper} (hj : ops[j]? = some oj) (hi : ops[i]? = some oi) (hij : i < j)
    (h1 : isFree L oi = false) (h2 : isFree L oj = false) (h3 : isEff oi = true ∨ isEff oj = true) : ∃ e ∈ oj.after, Region.binds .any e = true ∧ e.on = i := by
  have hlt : j < ops.size := (Array.getElem?_eq_some_iff.1 hj).1
  have h4 := List.all_eq_true.1 h j (by simpa using hlt)
  simp only [hj] at h4
  have h5 := List.all_eq_true.1 h4 i (by simpa using hij)
  simp only [hi, h1, h2, Bool.false_or, Bool.or_eq_true, Bool.not_eq_true', Bool.or_eq_false_iff] at h5
  rcases h5 with ⟨h5, h6⟩ | h5
  · rcases h3 with h3 | h3
    · rw [h3] at h5; cases h5
    · rw [h3] at h6; cases h6
  · obtain ⟨e, he, hb⟩ := List.any_eq_true.1 h5
    simp only [Bool.and_eq_true, beq_iff_eq] at hb
    exact ⟨e, by simpa using he, hb.1, hb.2⟩
def effAt (ops : Array Oper) (i : Nat) : Bool := match ops[i]? with | some o => isEff o | none => false
def cnt (ops : Array Oper) (f : Nat → Bool) : Nat := (List.range ops.size).countP fun i => f i && effAt ops i
theorem cnt_congr {ops : Array Oper} {f g : Nat → Bool} (h : ∀ i, i < ops.size → effAt ops i = true → f i = g i) : cnt ops f = cnt ops g := by
  unfold cnt
  refine List.countP_congr fun i hi => ?_
  have hlt : i < ops.size := by simpa using hi
  cases he : effAt ops i with
  | false => simp
  | true => simp [h i hlt he]
theorem countP_more {f g : Nat → Bool} {i : Nat} (hf : f i = false) (hg : g i = true) (h : ∀ j, j ≠ i → f j = g j) : ∀ n, i < n → (List.range n).countP g = (List.range n).countP f + 1
  | 0, hi => by omega
  | n + 1, hi => by
    rw [List.range_succ, List.countP_append, List.countP_append]
    by_cases hin : i = n
    · subst hin
      have : (List.range i).countP g = (List.range i).countP f := List.countP_congr fun j hj => by have h2 : j < i := (by simpa using hj); rw [h j (by omega)]
      simp [hf, hg, this]
    · have := countP_more hf hg h n (by omega)
      rw [this, List.countP_singleton, List.countP_singleton, h n (fun e => hin e.symm)]
      omega
theorem cnt_more {ops : Array Oper} {f g : Nat → Bool} {i : Nat} (hi : i < ops.size) (he : effAt ops i = true) (hf : f i = false) (hg : g i = true) (h : ∀ j, j ≠ i → f j = g j) : cnt ops g = cnt ops f + 1 :=
  countP_more (f := fun i => f i && effAt ops i) (g := fun i => g i && effAt ops i) (by simp [hf]) (by simp [hg, he]) (fun j hj => by simp [h j hj]) _ hi
def LandsPh (L : List Nat) (P : Program) (ops : Array Oper) (S : Nat → World → Prop) (o : Oper) (v : Value) (p : Nat) (a : Act) : Prop :=
  (Region.wanted o (yielded ops a.tmps) = true ∧
    ((isFree L o = true ∧ ∀ q, LandsTo P (S q) (S q) (execOp a.eval o) v) ∨ (isFree L o = false ∧ isEff o = false ∧ LandsTo P (S p) (S p) (execOp a.eval o) v) ∨ (isEff o = true ∧ LandsTo P (S p) (S (p + 1)) (execOp a.eval o) v))) ∨
  (Region.wanted o (yielded ops a.tmps) = false ∧ v = undef ∧ isEff o = false)
def wpPh (L : List Nat) (P : Program) (ops : Array Oper) (S : Nat → World → Prop) (R : Nat → Act → Prop) : List Oper → Nat → Act → Prop
  | [], p, a => R p a
  | o :: rest, p, a => ∃ v, LandsPh L P ops S o v p a ∧ wpPh L P ops S R rest (if isEff o then p + 1 else p) (a.put o.dst v)
def phAt (p : Nat) (ps : List (Oper × Value)) (k : Nat) : Nat := (ps.take k).foldl (fun p q => if isEff q.1 then p + 1 else p) p
theorem phAt_succ {p : Nat} {ps : List (Oper × Value)} {k : Nat} {o : Oper} {v : Value} (h : ps[k]? = some (o, v)) : phAt p ps (k + 1) = if isEff o then phAt p ps k + 1 else phAt p ps k := by
  simp [phAt, List.take_add_one, h, List.foldl_append]
theorem wpPh_pairs {L : List Nat} {ops : Array Oper} {S : Nat → World → Prop} {R : Nat → Act → Prop} : ∀ (l : List Oper) (p : Nat) (a : Act), wpPh L P ops S R l p a →
    ∃ ps : List (Oper × Value), ps.map (·.1) = l ∧ (∀ k o v, ps[k]? = some (o, v) → LandsPh L P ops S o v (phAt p ps k) (stateAt a ps k)) ∧ R (phAt p ps ps.length) (stateAt a ps ps.length)
  | [], p, a, h => ⟨[], rfl, by simp, by simpa [stateAt, phAt, wpPh] using h⟩
  | o :: rest, p, a, ⟨v, hv, h⟩ => by
    obtain ⟨ps, h1, h2, h3⟩ := wpPh_pairs rest _ _ h
    refine ⟨(o, v) :: ps, by simp [h1], fun k o' v' hk => ?_, by simpa [stateAt, phAt] using h3⟩
    cases k with
    | zero => simp at hk; obtain ⟨rfl, rfl⟩ := hk; simpa [stateAt, phAt] using hv
    | succ k => simpa [stateAt, phAt] using h2 k o' v' (by simpa using hk)
theorem phAt_cnt {ops : Array Oper} {ps : List (Oper × Value)} (hps : ∀ (j : Nat) (o : Oper), ops[j]? = some o ↔ ∃ v : Value, ps[j]? = some (o, v)) :
    ∀ k, k ≤ ops.size → phAt 0 ps k = cnt ops (fun i => decide (i < k))
  | 0, _ => by
    have h : ∀ l : List Nat, l.countP (fun i => decide (i < 0) && effAt ops i) = 0 := fun l => List.countP_eq_zero.2 fun i _ => by simp
    rw [cnt, h]
    simp [phAt]
  | k + 1, hk => by
    have ih := phAt_cnt hps k (by omega)
    have ho : ops[k]? = some ops[k] := Array.getElem?_eq_getElem (by omega)
    obtain ⟨v, hv⟩ := (hps k _).1 ho
    rw [phAt_succ hv, ih]
    have he : effAt ops k = isEff ops[k] := by simp [effAt, ho]
    cases hb : isEff ops[k] with
    | true =>
      rw [if_pos rfl]
      exact (cnt_more (i := k) (by omega) (by rw [he, hb]) (by simp) (by simp) (fun j hj => by simp; omega)).symm
    | false =>
      simp only [Bool.false_eq_true, if_false]
      refine cnt_congr fun i hi hei => ?_
      have : i ≠ k := fun e => by subst e; rw [he, hb] at hei; cases hei
      simp
      omega
theorem ph_any {L : List Nat} {dn : Nat → Bool} {ops : Array Oper} {S : Nat → World → Prop} {A : Nat → Act} {ps : List (Oper × Value)} {Q : Exit → Act → World → Prop} (hok : seqOk ops = true) (hph : phOk L ops = true)
    (hps : ∀ (j : Nat) (o : Oper), ops[j]? = some o ↔ ∃ v : Value, ps[j]? = some (o, v))
    (hA : ∀ (k : Nat) (o : Oper) (v : Value), ps[k]? = some (o, v) → A (k + 1) = (A k).put o.dst v) (hN : ∀ k, ps.length ≤ k → A (k + 1) = A k)
    (hL : ∀ (k : Nat) (o : Oper) (v : Value), dn k = false → ps[k]? = some (o, v) → LandsPh L P ops S o v (phAt 0 ps k) (A k)) (hQ : ∀ w, S (phAt 0 ps ps.length) w → Q .normal (A ps.length) w) (hlen : ps.length = ops.size) :
    ∀ (fuel : Nat) (listed : Array Bool) (a : Act) (w : World), (∀ k, dn k = true → listed.getD k true = true) → Inv ops A listed a → S (cnt ops fun i => listed.getD i true) w → listed.toList.count false ≤ fuel → wpAny P .any ops Q fuel listed a w := by
  have hfin : ∀ (listed : Array Bool) (a : Act) (w : World), Inv ops A listed a → S (cnt ops fun i => listed.getD i true) w → (∀ j, listed.getD j true = true) → Q .normal a w := by
    intro listed a w I hS hall
    have : a = A ps.length := by
      have hs0 : ∀ k, (A k).tmps.size = (A 0).tmps.size ∧ (A k).defers = (A 0).defers := by
        intro k
        induction k with
        | zero => exact ⟨rfl, rfl⟩
        | succ k ih =>
          cases hk : ps[k]? with
          | none => rw [hN k (by simpa using hk)]; exact ih
          | some p => rw [hA k p.1 p.2 hk, put_size, put_defers]; exact ih
      obtain ⟨ta, da⟩ := a
      have e1 : ta = (A ps.length).tmps := Array.ext_getElem? fun t => I.slots t ps.length fun j oj hoj _ => by
        simp only [hall j, true_iff]
        rw [hlen]
        exact (Array.getElem?_eq_some_iff.1 hoj).1
      have e2 : da = (A ps.length).defers := I.defers.trans (hs0 _).2.symm
      rw [e1, e2]
    rw [this]
    refine hQ w ?_
    rw [phAt_cnt hps _ (by omega)]
    have : cnt ops (fun i => listed.getD i true) = cnt ops (fun i => decide (i < ps.length)) := cnt_congr fun i hi _ => by rw [hall i]; simp; omega
    rw [← this]
    exact hS
  intro fuel
  induction fuel with
  | zero =>
    intro listed a w hD I hS hc
    have hall : ∀ j, listed.getD j true = true := by
      intro j
      rcases Nat.lt_or_ge j listed.size with hlt | hge
      · cases hl : listed.getD j true with
        | true => rfl
        | false =>
          have hv : listed[j] = false := by simpa [Array.getD, hlt] using hl
          have hm : false ∈ listed.toList := by
            rw [← hv]
            exact Array.mem_toList_iff.2 (Array.getElem_mem hlt)
          have := List.count_pos_iff.2 hm
          omega
      · simp [Array.getD, Nat.not_lt.2 hge]
    refine ⟨?_, hfin listed a w I hS hall⟩
    rcases hr : Region.ready .any ops listed with _ | ⟨i, r⟩
    · rfl
    · have := (ready_spec (ops := ops) (listed := listed) (i := i) (by rw [hr]; simp)).1
      rw [hall] at this
      cases this
  | succ fuel ih =>
    intro listed a w hD I hS hc
    refine ⟨fun hr => hfin listed a w I hS (all_listed I.size hok hr), fun i hi => ?_⟩
    obtain ⟨hu, o, ho, he⟩ := ready_spec hi
    obtain ⟨v, hp⟩ := (hps i o).1 ho
    have hI := inv_step hok hps hA hN I hi hp
    have hc' := count_set hu hc
    have hlt : i < listed.size := by rw [I.size]; exact (Array.getElem?_eq_some_iff.1 ho).1
    have hios : i < ops.size := (Array.getElem?_eq_some_iff.1 ho).1
    have heo : effAt ops i = isEff o := by simp [effAt, ho]
    -- the frame's slots that o looks at are as in the text's order
    obtain ⟨hsel, _, h3⟩ := seqOk_spec hok ho
    obtain ⟨e1, e2⟩ := same_exec (ops := ops) (a := a) (b := A i) hsel (fun t ht => I.slots t i fun j oj hoj hdj => by
      constructor
      · intro hl
        rcases Nat.lt_trichotomy j i with h4 | h4 | h4
        · exact h4
        · subst h4; rw [hu] at hl; cases hl
        · exfalso
          obtain ⟨_, _, h5⟩ := seqOk_spec hok hoj
          rcases h5 i o h4 ho with h6 | ⟨e, hem, hb, heq⟩
          · exact (Oper.apart_spec h6).2.2 t hdj ht
          · have := I.down j oj hoj hl e hem hb
            rw [heq, getD_both hlt, hu] at this
            cases this
      · intro hji
        rcases h3 j oj hji hoj with h6 | ⟨e, hem, hb, heq⟩
        · exact absurd ht ((Oper.apart_spec h6).1 t hdj)
        · have := he e hem hb
          rw [heq, getD_both (by omega)] at this
          exact this)
    have hdi : dn i = false := by
      cases hb : dn i with
      | false => rfl
      | true => rw [hD i hb] at hu; cases hu
    have hD' : ∀ k, dn k = true → (listed.setIfInBounds i true).getD k true = true := fun k hk => by
      rw [getD_set hlt]
      split
      · rfl
      · exact hD k hk
    have hl := hL i o v hdi hp
    unfold LandsPh at hl
    rw [← e1, ← e2] at hl
    -- the phase is the text's own, for whatever looks at the world
    have hphase : isFree L o = false → cnt ops (fun i => listed.getD i true) = phAt 0 ps i := by
      intro hpu
      rw [phAt_cnt hps i (by omega)]
      refine cnt_congr fun j hj hej => ?_
      have hoj : ops[j]? = some ops[j] := Array.getElem?_eq_getElem hj
      have hej' : isEff ops[j] = true := by simpa [effAt, hoj] using hej
      rcases Nat.lt_trichotomy j i with h4 | h4 | h4
      · obtain ⟨e, hem, hb, heq⟩ := phOk_spec hph ho hoj h4 (eff_not_free hej') hpu (.inl hej')
        have := he e hem hb
        rw [heq, getD_both (by omega)] at this
        simp only [this, h4, decide_true]
      · subst h4
        simp only [hu, Nat.lt_irrefl, decide_false]
      · have : listed.getD j true = false := by
          cases hlj : listed.getD j true with
          | false => rfl
          | true =>
            obtain ⟨e, hem, hb, heq⟩ := phOk_spec hph hoj ho h4 hpu (eff_not_free hej') (.inr hej')
            have := I.down j _ hoj hlj e hem hb
            rw [heq, getD_both hlt, hu] at this
            cases this
        simp only [this, Nat.not_lt.2 (Nat.le_of_lt h4), decide_false]
    have hsame : isEff o = false → cnt ops (fun k => (listed.setIfInBounds i true).getD k true) = cnt ops (fun i => listed.getD i true) := fun hne => cnt_congr fun j hj hej => by
      rw [getD_set hlt, if_neg (fun e => by subst e; rw [heo, hne] at hej; cases hej)]
    have hnext : isEff o = true → cnt ops (fun k => (listed.setIfInBounds i true).getD k true) = cnt ops (fun i => listed.getD i true) + 1 := fun hye =>
      cnt_more hios (by rw [heo, hye]) hu (by rw [getD_set hlt, if_pos rfl]) (fun j hj => by rw [getD_set hlt, if_neg hj])
    unfold wpOp
    simp only [ho]
    rcases hl with ⟨hw, hl⟩ | ⟨hw, rfl, hne⟩
    · rw [if_pos hw]
      refine .inl ?_
      rcases hl with ⟨hpu, hl⟩ | ⟨hpu, hne, hl⟩ | ⟨hye, hl⟩
      · have hne : isEff o = false := by
          cases hb : isEff o with
          | false => rfl
          | true => rw [eff_not_free hb] at hpu; cases hpu
        exact (hl _).wp hS fun w' hS' => ih _ _ _ hD' hI (by rw [hsame hne]; exact hS') hc'
      · have hcn := hphase hpu
        rw [hcn] at hS
        exact hl.wp hS fun w' hS' => ih _ _ _ hD' hI (by rw [hsame hne, hcn]; exact hS') hc'
      · have hcn := hphase (eff_not_free hye)
        rw [hcn] at hS
        exact hl.wp hS fun w' hS' => ih _ _ _ hD' hI (by rw [hnext hye, hcn]; exact hS') hc'
    · rw [if_neg (by rw [hw]; simp)]
      exact ih _ _ _ hD' hI (by rw [hsame hne]; exact hS) hc'
theorem wp_region_ph {id : Nat} {l : List Oper} {a : Act} {w : World} {Q : Exit → Act → World → Prop} (L : List Nat) (S : Nat → World → Prop) (hm : P.follows .mixedOrders = true) (hok : seqOk l.toArray = true) (hph : phOk L l.toArray = true) (hS : S 0 w.drew)
    (h : wpPh L P l.toArray S (fun p a' => ∀ w', S p w' → Q .normal a' w') l 0 a) : (Code.region id l.toArray true).wp P Q a w := by
  refine wp_region_any hm ?_
  obtain ⟨ps, h1, h2, h3⟩ := wpPh_pairs l 0 a h
  have hlen : ps.length = l.toArray.size := by rw [← h1]; simp
  refine ph_any (S := S) (dn := fun _ => false) (A := stateAt a ps) (ps := ps) hok hph (fun j o => ?_) (fun k o v hk => stateAt_succ hk) (fun k hk => ?_) (fun k o v _ => h2 k o v) h3 hlen l.toArray.size _ a _ (fun _ h => by cases h) ?_ ?_ ?_
  · rw [← h1]
    simp only [List.getElem?_toArray, List.getElem?_map]
    cases hp : ps[j]? with
    | none => simp
    | some p =>
      obtain ⟨o', v'⟩ := p
      simp only [Option.map_some, Option.some.injEq, Prod.mk.injEq]
      exact ⟨fun e => ⟨v', e, rfl⟩, fun ⟨_, e, _⟩ => e⟩
  · simp [stateAt, List.take_of_length_le hk, List.take_of_length_le (Nat.le_succ_of_le hk)]
  · refine ⟨by simp, fun j oj hj hl => ?_, by simp [stateAt], by simp [stateAt], fun t k hk => ?_⟩
    · have hlt : j < l.toArray.size := (Array.getElem?_eq_some_iff.1 hj).1
      have hlt' : j < l.length := by simpa using hlt
      simp [Array.getD, hlt'] at hl
    · have := no_writer (A := stateAt a ps) (ps := ps) (t := t) (fun k o v hk => stateAt_succ hk) (fun k hk => by simp [stateAt, List.take_of_length_le hk, List.take_of_length_le (Nat.le_succ_of_le hk)]) k 0 (fun j o v _ hjk hpj hd => by
        have hoj : l.toArray[j]? = some o := by rw [← h1]; simp [hpj]
        have hlt : j < l.toArray.size := (Array.getElem?_eq_some_iff.1 hoj).1
        have hlt' : j < l.length := by simpa using hlt
        have := (hk j o hoj hd).2 (by omega)
        simp [Array.getD, hlt'] at this)
      rw [Nat.zero_add] at this
      rw [this]
      simp [stateAt]
  · have : cnt l.toArray (fun i => (Array.replicate l.toArray.size false).getD i true) = 0 := List.countP_eq_zero.2 fun i hi => by
      have hlt : i < l.length := by simpa using hi
      simp [Array.getD, hlt]
    rw [this]
    exact hS
  · exact Nat.le_trans List.count_le_length (by simp)
/-! ### The same with a new variable, whose place among the calls is open -/
section
variable {L : List Nat} {ops : Array Oper} {S0 : World → Prop} {S : Nat → Nat → World → Prop} {R : Act → Prop} {a : Act} {o : Oper} {rest : List Oper} {v : Value}
end
theorem wpPh_nil {L : List Nat} {ops : Array Oper} {S : Nat → World → Prop} {R : Nat → Act → Prop} {p : Nat} {a : Act} (h : R p a) : wpPh L P ops S R [] p a := h
theorem wpPh_skip {L : List Nat} {ops : Array Oper} {S : Nat → World → Prop} {R : Nat → Act → Prop} {p : Nat} {a : Act} {o : Oper} {rest : List Oper} (he : isEff o = false) (hw : Region.wanted o (yielded ops a.tmps) = false)
    (hr : wpPh L P ops S R rest p (a.put o.dst undef)) : wpPh L P ops S R (o :: rest) p a := ⟨undef, .inr ⟨hw, rfl, he⟩, by rw [if_neg (by rw [he]; simp)]; exact hr⟩
theorem wpPh_pure {L : List Nat} {ops : Array Oper} {S : Nat → World → Prop} {R : Nat → Act → Prop} {p : Nat} {a : Act} {o : Oper} {rest : List Oper} {v : Value} (hp : isFree L o = true) (he : isEff o = false) (hw : Region.wanted o (yielded ops a.tmps) = true)
    (h : ∀ w, (execOp a.eval o).run P w = .ok (.value v) w) (hr : wpPh L P ops S R rest p (a.put o.dst v)) : wpPh L P ops S R (o :: rest) p a :=
  ⟨v, .inl ⟨hw, .inl ⟨hp, fun _ w hS => by rw [h w]; exact ⟨rfl, hS⟩⟩⟩, by rw [if_neg (by rw [he]; simp)]; exact hr⟩
theorem wpPh_free {L : List Nat} {ops : Array Oper} {S : Nat → World → Prop} {R : Nat → Act → Prop} {p : Nat} {a : Act} {o : Oper} {rest : List Oper} {v : Value} (hp : isFree L o = true) (he : isEff o = false) (hw : Region.wanted o (yielded ops a.tmps) = true)
    (h : ∀ q w, S q w → (execOp a.eval o).run P w = .ok (.value v) w) (hr : wpPh L P ops S R rest p (a.put o.dst v)) : wpPh L P ops S R (o :: rest) p a :=
  ⟨v, .inl ⟨hw, .inl ⟨hp, fun q w hS => by rw [h q w hS]; exact ⟨rfl, hS⟩⟩⟩, by rw [if_neg (by rw [he]; simp)]; exact hr⟩
theorem wpPh_val {L : List Nat} {ops : Array Oper} {S : Nat → World → Prop} {R : Nat → Act → Prop} {p : Nat} {a : Act} {o : Oper} {rest : List Oper} {v : Value} (hp : isFree L o = false) (he : isEff o = false) (hw : Region.wanted o (yielded ops a.tmps) = true)
    (h : ∀ w, S p w → (execOp a.eval o).run P w = .ok (.value v) w) (hr : wpPh L P ops S R rest p (a.put o.dst v)) : wpPh L P ops S R (o :: rest) p a :=
  ⟨v, .inl ⟨hw, .inr (.inl ⟨hp, he, fun w hS => by rw [h w hS]; exact ⟨rfl, hS⟩⟩)⟩, by rw [if_neg (by rw [he]; simp)]; exact hr⟩
theorem wpPh_call {L : List Nat} {ops : Array Oper} {S : Nat → World → Prop} {R : Nat → Act → Prop} {p : Nat} {a : Act} {o : Oper} {rest : List Oper} {v : Value} {f : FuncId} {args : Array Value} (hp : isFree L o = false) (he : isEff o = false)
    (hw : Region.wanted o (yielded ops a.tmps) = true) (h0 : ∀ w, (execOp a.eval o).run P w = .ok (.enter f args) w) (h : ∀ w, S p w → Calls P f args w fun e w' => e = .returned v ∧ S p w')
    (hr : wpPh L P ops S R rest p (a.put o.dst v)) : wpPh L P ops S R (o :: rest) p a :=
  ⟨v, .inl ⟨hw, .inr (.inl ⟨hp, he, fun w hS => by rw [h0 w]; exact h w hS⟩)⟩, by rw [if_neg (by rw [he]; simp)]; exact hr⟩
theorem wpPh_store {L : List Nat} {ops : Array Oper} {S : Nat → World → Prop} {R : Nat → Act → Prop} {p : Nat} {a : Act} {o : Oper} {rest : List Oper} (hd : o.dst = none) (he : isEff o = true) (hw : Region.wanted o (yielded ops a.tmps) = true)
    (h : ∀ w, S p w → ∃ w', (execOp a.eval o).run P w = .ok .skip w' ∧ S (p + 1) w') (hr : wpPh L P ops S R rest (p + 1) a) : wpPh L P ops S R (o :: rest) p a :=
  ⟨undef, .inl ⟨hw, .inr (.inr ⟨he, fun w hS => by obtain ⟨w', h1, h2⟩ := h w hS; rw [h1]; exact ⟨rfl, h2⟩⟩)⟩, by rw [if_pos he, hd]; exact hr⟩
theorem wpDet_nil {ops : Array Oper} {R : Act → Prop} {a : Act} (h : R a) : wpDet P ops S R [] a := h
theorem wpDet_skip {ops : Array Oper} {R : Act → Prop} {a : Act} {o : Oper} {rest : List Oper} (hw : Region.wanted o (yielded ops a.tmps) = false)
    (hr : wpDet P ops S R rest (a.put o.dst undef)) : wpDet P ops S R (o :: rest) a := ⟨undef, .inr ⟨hw, rfl⟩, hr⟩
theorem wpDet_val {ops : Array Oper} {R : Act → Prop} {a : Act} {o : Oper} {rest : List Oper} {v : Value} (hw : Region.wanted o (yielded ops a.tmps) = true)
    (h : ∀ w, S w → (execOp a.eval o).run P w = .ok (.value v) w) (hr : wpDet P ops S R rest (a.put o.dst v)) : wpDet P ops S R (o :: rest) a :=
  ⟨v, .inl ⟨hw, fun w hS => by rw [h w hS]; exact ⟨rfl, hS⟩⟩, hr⟩
theorem wpDet_call {ops : Array Oper} {R : Act → Prop} {a : Act} {o : Oper} {rest : List Oper} {v : Value} {f : FuncId} {args : Array Value} (hw : Region.wanted o (yielded ops a.tmps) = true)
    (h0 : ∀ w, (execOp a.eval o).run P w = .ok (.enter f args) w) (h : ∀ w, S w → Calls P f args w fun e w' => e = .returned v ∧ S w')
    (hr : wpDet P ops S R rest (a.put o.dst v)) : wpDet P ops S R (o :: rest) a :=
  ⟨v, .inl ⟨hw, fun w hS => by rw [h0 w]; exact h w hS⟩, hr⟩
end
end Go.Proofs.Ytbeojfhakmbacaa
namespace Go.Proofs.Ytbeojfhakmbacaa
open Go
section
variable {P : Program}
def Does (P : Program) (x : Sem Next) (w : World) (C : Value → World → Prop) : Prop :=
  match x.run P w with
  | .ok (.value v) w' => C v w'
  | .ok .skip w' => C undef w'
  | .ok (.enter f args) w' => Calls P f args w' fun e w'' => ∃ v, e = .returned v ∧ C v w''
  | _ => False
theorem Does.wp {o : Oper} {a : Act} {w : World} {C : Value → World → Prop} {K : Act → World → Prop} {Q : Exit → Act → World → Prop} (h : Does P (execOp a.eval o) w C) (hK : ∀ v w', C v w' → K (a.put o.dst v) w') : o.wp P a w K Q := by
  unfold Does at h
  unfold Oper.wp
  generalize (execOp a.eval o).run P w = r at h
  cases r with
  | ok n w' =>
    cases n <;> simp only at h <;> simp only [Oper.upon]
    case value u => exact hK _ _ h
    case skip => exact hK _ _ h
    case enter f args => exact h.mono fun e w'' ⟨v, he, hc⟩ => by subst he; exact hK _ _ hc
  | halt x w' => exact h.elim
def Still (P : Program) (ops : Array Oper) (S : World → Prop) (o : Oper) (v : Value) (a : Act) : Prop :=
  (Region.wanted o (yielded ops a.tmps) = true ∧ ∀ w, S w → (execOp a.eval o).run P w = .ok (.value v) w) ∨ (Region.wanted o (yielded ops a.tmps) = false ∧ v = undef)
def wpSeq (P : Program) (ops : Array Oper) (eff : Oper → Bool) (R : Act → World → Prop) : List Oper → (World → Prop) → Act → World → Prop
  | [], _, a, w => R a w
  | o :: rest, S, a, w => (eff o = false ∧ ∃ v, Still P ops S o v a ∧ wpSeq P ops eff R rest S (a.put o.dst v) w) ∨
      (eff o = true ∧ Region.wanted o (yielded ops a.tmps) = true ∧ Does P (execOp a.eval o) w fun v w' => ∃ S' : World → Prop, S' w' ∧ (∀ W, S' W → S W) ∧ wpSeq P ops eff R rest S' (a.put o.dst v) w')
def seqChk (ops : Array Oper) (eff : Oper → Bool) (ord : List Nat) : Bool :=
  decide (ord.length = ops.size) && (List.range ops.size).all (fun i => ord.contains i) &&
  (List.range ord.length).all fun q => match ord[q]? with
    | none => false
    | some j => match ops[j]? with
      | none => false
      | some oj => (match oj.op with | .select .. => false | _ => true) && oj.after.toList.all (fun e => !Region.binds .any e || (ord.take q).contains e.on) &&
        (List.range q).all fun p => match ord[p]? with
          | none => false
          | some i => match ops[i]? with
            | none => false
            | some oi => decide (i ≠ j) && ((oi.apart ops oj || oj.after.toList.any (fun e => Region.binds .any e && e.on == i)) && (!eff oi || (belowOf ops ops.size j).contains i))
structure SeqFacts (ops : Array Oper) (eff : Oper → Bool) (ord : List Nat) : Prop where
  len : ord.length = ops.size
  mem : ∀ i, i < ops.size → i ∈ ord
  at_ : ∀ q : Nat, q < ord.length → ∃ j oj, ord[q]? = some j ∧ ops[j]? = some oj ∧ (∀ cs b, oj.op ≠ .select cs b) ∧ (∀ e ∈ oj.after, Region.binds .any e = true → e.on ∈ ord.take q) ∧
    ∀ p : Nat, p < q → ∃ i oi, ord[p]? = some i ∧ ops[i]? = some oi ∧ i ≠ j ∧ (oi.apart ops oj = true ∨ ∃ e ∈ oj.after, Region.binds .any e = true ∧ e.on = i) ∧ (eff oi = true → i ∈ belowOf ops ops.size j)
theorem seqChk_spec {ops : Array Oper} {eff : Oper → Bool} {ord : List Nat} (h : seqChk ops eff ord = true) : SeqFacts ops eff ord := by
  unfold seqChk at h
  simp only [Bool.and_eq_true, decide_eq_true_eq] at h
  obtain ⟨⟨h1, h2⟩, h3⟩ := h
  refine ⟨h1, fun i hi => by simpa using List.all_eq_true.1 h2 i (by simpa using hi), fun q hq => ?_⟩
  have h4 := List.all_eq_true.1 h3 q (by simpa using hq)
  cases hj : ord[q]? with
  | none => rw [hj] at h4; simp at h4
  | some j =>
    rw [hj] at h4
    cases ho : ops[j]? with
    | none => simp only [ho] at h4; cases h4
    | some oj =>
      simp only [ho, Bool.and_eq_true] at h4
      obtain ⟨⟨h5, h6⟩, h7⟩ := h4
      refine ⟨j, oj, rfl, ho, fun cs b e => by rw [e] at h5; simp at h5, fun e he hb => ?_, fun p hp => ?_⟩
      · have := List.all_eq_true.1 h6 e (by simpa using he)
        simpa [hb] using this
      · have h8 := List.all_eq_true.1 h7 p (by simpa using hp)
        cases hi : ord[p]? with
        | none => rw [hi] at h8; simp at h8
        | some i =>
          rw [hi] at h8
          cases hoi : ops[i]? with
          | none => simp only [hoi] at h8; cases h8
          | some oi =>
            simp only [hoi, Bool.and_eq_true, Bool.or_eq_true, decide_eq_true_eq] at h8
            obtain ⟨hne, h8⟩ := h8
            refine ⟨i, oi, rfl, hoi, hne, h8.1.imp id fun h9 => ?_, fun he => ?_⟩
            · obtain ⟨e, he, hb⟩ := List.any_eq_true.1 h9
              simp only [Bool.and_eq_true, beq_iff_eq] at hb
              exact ⟨e, by simpa using he, hb.1, hb.2⟩
            · rcases h8.2 with h9 | h9
              · rw [he] at h9; cases h9
              · simpa using h9
structure Mid (P : Program) (ops : Array Oper) (eff : Oper → Bool) (ord : List Nat) (a0 : Act) (ps : List (Oper × Value)) (S : World → Prop) (listed : Array Bool) (a : Act) : Prop where
  size : listed.size = ops.size
  plen : ps.length ≤ ord.length
  down : ∀ (j : Nat) oj, ops[j]? = some oj → listed.getD j true = true → ∀ e ∈ oj.after, Region.binds .any e = true → listed.getD e.on false = true
  defers : a.defers = a0.defers
  tsize : a.tmps.size = a0.tmps.size
  ahead : ∀ (q j : Nat), ps.length ≤ q → ord[q]? = some j → listed.getD j true = false
  pss : ∀ (p : Nat) (o : Oper) (v : Value), ps[p]? = some (o, v) → ∃ j, ord[p]? = some j ∧ ops[j]? = some o
  done : ∀ (p : Nat) (o : Oper) (v : Value) (j : Nat), ps[p]? = some (o, v) → ord[p]? = some j → eff o = true → listed.getD j true = true
  quiet : ∀ (p : Nat) (o : Oper) (v : Value), ps[p]? = some (o, v) → eff o = false → Still P ops S o v (stateAt a0 ps p)
  slots : ∀ (t k : Nat), k ≤ ps.length → (∀ (p : Nat) (o : Oper) (v : Value) (j : Nat), ps[p]? = some (o, v) → ord[p]? = some j → o.dst = some t → (listed.getD j true = true ↔ p < k)) → a.tmps[t]? = (stateAt a0 ps k).tmps[t]?
theorem stateAt_facts (a0 : Act) (ps : List (Oper × Value)) : ∀ k, (stateAt a0 ps k).tmps.size = a0.tmps.size ∧ (stateAt a0 ps k).defers = a0.defers := by
  intro k
  induction k with
  | zero => simp [stateAt]
  | succ k ih =>
    cases hk : ps[k]? with
    | none =>
      have : ps.length ≤ k := by simpa using hk
      have e : stateAt a0 ps (k + 1) = stateAt a0 ps k := by simp [stateAt, List.take_of_length_le this, List.take_of_length_le (Nat.le_succ_of_le this)]
      rw [e]; exact ih
    | some p =>
      obtain ⟨o, v⟩ := p
      rw [stateAt_succ hk, put_size, put_defers]; exact ih
theorem stateAt_snoc (a0 : Act) (ps : List (Oper × Value)) (x : Oper × Value) {k : Nat} (hk : k ≤ ps.length) : stateAt a0 (ps ++ [x]) k = stateAt a0 ps k := by
  simp [stateAt, List.take_append_of_le_length hk]
theorem stateAt_last (a0 : Act) (ps : List (Oper × Value)) (o : Oper) (v : Value) : stateAt a0 (ps ++ [(o, v)]) (ps.length + 1) = (stateAt a0 ps ps.length).put o.dst v := by
  rw [stateAt_succ (o := o) (v := v) (by simp), stateAt_snoc _ _ _ (Nat.le_refl _)]
theorem slot_kept {a0 : Act} {ps : List (Oper × Value)} {t : Nat} : ∀ (d i : Nat), (∀ (p : Nat) (o : Oper) (v : Value), i ≤ p → p < i + d → ps[p]? = some (o, v) → o.dst ≠ some t) → (stateAt a0 ps (i + d)).tmps[t]? = (stateAt a0 ps i).tmps[t]?
  | 0, i, _ => rfl
  | d + 1, i, h => by
    have h1 := slot_kept (a0 := a0) d i (fun p o v h2 h3 => h p o v h2 (by omega))
    rw [← h1]
    cases hk : ps[i + d]? with
    | none =>
      have : ps.length ≤ i + d := by simpa using hk
      have e : stateAt a0 ps (i + (d + 1)) = stateAt a0 ps (i + d) := by
        rw [show i + (d + 1) = i + d + 1 from by omega]
        simp [stateAt, List.take_of_length_le this, List.take_of_length_le (Nat.le_succ_of_le this)]
      rw [e]
    | some x =>
      obtain ⟨o, v⟩ := x
      rw [show i + (d + 1) = i + d + 1 from by omega, stateAt_succ hk, put_tmps_ne (h _ o v (by omega) (by omega) hk)]
section
variable {ops : Array Oper} {eff : Oper → Bool} {ord : List Nat} {a0 : Act} {ps : List (Oper × Value)} {S : World → Prop} {listed : Array Bool} {a : Act}
theorem ord_inj (F : SeqFacts ops eff ord) {p q i : Nat} (hp : ord[p]? = some i) (hq : ord[q]? = some i) : p = q := by
  rcases Nat.lt_trichotomy p q with h | h | h
  · obtain ⟨j, oj, hj, _, _, _, hpair⟩ := F.at_ q (List.getElem?_eq_some_iff.1 hq).1
    obtain ⟨i', oi, hi, _, hne, _⟩ := hpair p h
    rw [hp] at hi; cases hi
    rw [hq] at hj; cases hj
    exact absurd rfl hne
  · exact h
  · obtain ⟨j, oj, hj, _, _, _, hpair⟩ := F.at_ p (List.getElem?_eq_some_iff.1 hp).1
    obtain ⟨i', oi, hi, _, hne, _⟩ := hpair q h
    rw [hq] at hi; cases hi
    rw [hp] at hj; cases hj
    exact absurd rfl hne
theorem mem_take_pos {q i : Nat} (h : i ∈ ord.take q) : ∃ p, p < q ∧ ord[p]? = some i := by
  obtain ⟨p, hp⟩ := List.getElem?_of_mem h
  rw [List.getElem?_take] at hp
  split at hp
  · exact ⟨p, by assumption, hp⟩
  · cases hp
theorem mid_same (F : SeqFacts ops eff ord) (M : Mid P ops eff ord a0 ps S listed a) {q j : Nat} {o : Oper} (hq : q ≤ ps.length) (hj : ord[q]? = some j) (ho : ops[j]? = some o) (hu : listed.getD j true = false)
    (he : ∀ e ∈ o.after, Region.binds .any e = true → listed.getD e.on false = true) :
    execOp a.eval o = execOp (stateAt a0 ps q).eval o ∧ Region.wanted o (yielded ops a.tmps) = Region.wanted o (yielded ops (stateAt a0 ps q).tmps) := by
  have hql : q < ord.length := (List.getElem?_eq_some_iff.1 hj).1
  obtain ⟨j', o', hj', ho', hs, _, hpair⟩ := F.at_ q hql
  rw [hj] at hj'; cases hj'
  rw [ho] at ho'; cases ho'
  refine same_exec hs fun t htk => M.slots t q hq fun p op v i hp hi hdp => ?_
  obtain ⟨i', hi', hoi'⟩ := M.pss p op v hp
  rw [hi] at hi'; cases hi'
  constructor
  · intro hl
    rcases Nat.lt_trichotomy p q with h4 | h4 | h4
    · exact h4
    · subst h4
      rw [hi] at hj; cases hj
      rw [hu] at hl; cases hl
    · exfalso
      have hpl : p < ord.length := (List.getElem?_eq_some_iff.1 hi).1
      obtain ⟨i2, op2, hi2, hop2, _, _, hpair2⟩ := F.at_ p hpl
      rw [hi] at hi2; cases hi2
      rw [hoi'] at hop2; cases hop2
      obtain ⟨j2, o2, hj2, ho2, _, hap, _⟩ := hpair2 q h4
      rw [hj] at hj2; cases hj2
      rw [ho] at ho2; cases ho2
      rcases hap with h6 | ⟨e, hem, hb, heq⟩
      · exact (Oper.apart_spec h6).2.2 t hdp htk
      · have := M.down i op hoi' hl e hem hb
        rw [heq] at this
        have hjl : j < listed.size := by rw [M.size]; exact (Array.getElem?_eq_some_iff.1 ho).1
        rw [getD_both hjl, hu] at this
        cases this
  · intro hpq
    obtain ⟨i2, o2, hi2, ho2, _, hap, _⟩ := hpair p hpq
    rw [hi] at hi2; cases hi2
    rw [hoi'] at ho2; cases ho2
    rcases hap with h6 | ⟨e, hem, hb, heq⟩
    · exact absurd htk ((Oper.apart_spec h6).1 t hdp)
    · have := he e hem hb
      rw [heq] at this
      have hil : i < listed.size := by rw [M.size]; exact (Array.getElem?_eq_some_iff.1 hoi').1
      rwa [getD_both hil] at this
theorem mid_put (F : SeqFacts ops eff ord) (M : Mid P ops eff ord a0 ps S listed a) {q j : Nat} {o : Oper} {v : Value} (hp : ps[q]? = some (o, v)) (hj : ord[q]? = some j) (hu : listed.getD j true = false)
    (he : ∀ e ∈ o.after, Region.binds .any e = true → listed.getD e.on false = true) : Mid P ops eff ord a0 ps S (listed.setIfInBounds j true) (a.put o.dst v) := by
  obtain ⟨j', hj', ho⟩ := M.pss q o v hp
  rw [hj] at hj'; cases hj'
  have hql : q < ps.length := (List.getElem?_eq_some_iff.1 hp).1
  have hjl : j < listed.size := by rw [M.size]; exact (Array.getElem?_eq_some_iff.1 ho).1
  refine ⟨by simpa using M.size, M.plen, fun i oi hi hl e hem hb => ?_, by rw [put_defers]; exact M.defers, by rw [put_size]; exact M.tsize, fun r i hr hi => ?_, M.pss, fun p op u i hpp hi hef => ?_, M.quiet, fun t k hk hw => ?_⟩
  · rw [getD_set hjl] at hl ⊢
    split
    · rfl
    · by_cases hij : i = j
      · subst hij
        rw [ho] at hi; cases hi
        exact he e hem hb
      · rw [if_neg hij] at hl
        exact M.down i oi hi hl e hem hb
  · rw [getD_set hjl, if_neg]
    · exact M.ahead r i hr hi
    · rintro rfl
      have := ord_inj F hi hj
      omega
  · rw [getD_set hjl]
    split
    · rfl
    · exact M.done p op u i hpp hi hef
  · by_cases hdt : o.dst = some t
    · have hqk : q < k := (hw q o v j hp hj hdt).1 (by rw [getD_set hjl, if_pos rfl])
      have hno := slot_kept (a0 := a0) (ps := ps) (t := t) (k - (q + 1)) (q + 1) (fun p op u h1 h2 hpp hdp => by
        obtain ⟨i, hi, hoi⟩ := M.pss p op u hpp
        have hli := (hw p op u i hpp hi hdp).2 (by omega)
        have hij : i ≠ j := by
          rintro rfl
          have := ord_inj F hi hj
          omega
        rw [getD_set hjl, if_neg hij] at hli
        have hpl : p < ord.length := (List.getElem?_eq_some_iff.1 hi).1
        obtain ⟨i2, op2, hi2, hop2, _, _, hpair2⟩ := F.at_ p hpl
        rw [hi] at hi2; cases hi2
        rw [hoi] at hop2; cases hop2
        obtain ⟨j2, o2, hj2, ho2, _, hap, _⟩ := hpair2 q (by omega)
        rw [hj] at hj2; cases hj2
        rw [ho] at ho2; cases ho2
        rcases hap with h6 | ⟨e, hem, hb, heq⟩
        · exact (Oper.apart_spec h6).2.1 t hdt hdp
        · have := M.down i op hoi hli e hem hb
          rw [heq, getD_both hjl, hu] at this
          cases this)
      rw [show q + 1 + (k - (q + 1)) = k from by omega] at hno
      rw [hno, stateAt_succ hp, hdt]
      exact put_tmps_eq (M.tsize.trans (stateAt_facts a0 ps q).1.symm)
    · rw [put_tmps_ne hdt]
      refine M.slots t k hk fun p op u i hpp hi hdp => ?_
      rw [← hw p op u i hpp hi hdp, getD_set hjl]
      by_cases hij : i = j
      · subst hij
        have hpq := ord_inj F hi hj
        subst hpq
        rw [hp] at hpp; cases hpp
        exact absurd hdp hdt
      · rw [if_neg hij]
theorem mid_more (F : SeqFacts ops eff ord) (M : Mid P ops eff ord a0 ps S listed a) {j : Nat} {o : Oper} {v : Value} (hj : ord[ps.length]? = some j) (ho : ops[j]? = some o) (hef : eff o = false) (hst : Still P ops S o v (stateAt a0 ps ps.length)) :
    Mid P ops eff ord a0 (ps ++ [(o, v)]) S listed a := by
  have hcase : ∀ (p : Nat) (op : Oper) (u : Value), (ps ++ [(o, v)])[p]? = some (op, u) → (p < ps.length ∧ ps[p]? = some (op, u)) ∨ (p = ps.length ∧ op = o ∧ u = v) := by
    intro p op u h
    rcases Nat.lt_trichotomy p ps.length with h1 | h1 | h1
    · rw [List.getElem?_append_left h1] at h; exact .inl ⟨h1, h⟩
    · subst h1
      simp at h
      exact .inr ⟨rfl, h.1.symm, h.2.symm⟩
    · rw [List.getElem?_eq_none (by simp; omega)] at h; cases h
  have hplt : ps.length < ord.length := (List.getElem?_eq_some_iff.1 hj).1
  refine ⟨M.size, by rw [List.length_append]; exact hplt, M.down, M.defers, M.tsize, fun q i hq hi => M.ahead q i (by simp at hq; omega) hi, fun p op u h => ?_, fun p op u i h hi he => ?_, fun p op u h he => ?_, fun t k hk hw => ?_⟩
  · rcases hcase p op u h with ⟨_, h1⟩ | ⟨rfl, rfl, rfl⟩
    · exact M.pss p op u h1
    · exact ⟨j, hj, ho⟩
  · rcases hcase p op u h with ⟨_, h1⟩ | ⟨rfl, rfl, rfl⟩
    · exact M.done p op u i h1 hi he
    · rw [hef] at he; cases he
  · rcases hcase p op u h with ⟨h0, h1⟩ | ⟨rfl, rfl, rfl⟩
    · rw [stateAt_snoc _ _ _ (Nat.le_of_lt h0)]
      exact M.quiet p op u h1 he
    · rw [stateAt_snoc _ _ _ (Nat.le_refl _)]
      exact hst
  · have hu : listed.getD j true = false := M.ahead ps.length j (Nat.le_refl _) hj
    by_cases hk2 : k ≤ ps.length
    · rw [stateAt_snoc _ _ _ hk2]
      exact M.slots t k hk2 fun p op u i hp hi hd => hw p op u i (by rw [List.getElem?_append_left (List.getElem?_eq_some_iff.1 hp).1]; exact hp) hi hd
    · have hk3 : k = ps.length + 1 := by simp at hk; omega
      subst hk3
      have hnd : o.dst ≠ some t := fun hd => by
        have := (hw ps.length o v j (by simp) hj hd).2 (by omega)
        rw [hu] at this; cases this
      rw [stateAt_last, put_tmps_ne hnd]
      refine M.slots t ps.length (Nat.le_refl _) fun p op u i hp hi hd => ?_
      have hpl := (List.getElem?_eq_some_iff.1 hp).1
      rw [hw p op u i (by rw [List.getElem?_append_left hpl]; exact hp) hi hd]
      omega
theorem Still.stronger {S' : World → Prop} {o : Oper} {v : Value} (h : Still P ops S o v a) (hs : ∀ W, S' W → S W) : Still P ops S' o v a := h.imp (fun ⟨h1, h2⟩ => ⟨h1, fun w hw => h2 w (hs w hw)⟩) id
theorem mid_deed (F : SeqFacts ops eff ord) (M : Mid P ops eff ord a0 ps S listed a) {j : Nat} {o : Oper} {v : Value} {S' : World → Prop} (hj : ord[ps.length]? = some j) (ho : ops[j]? = some o) (hef : eff o = true)
    (he : ∀ e ∈ o.after, Region.binds .any e = true → listed.getD e.on false = true) (hs : ∀ W, S' W → S W) :
    Mid P ops eff ord a0 (ps ++ [(o, v)]) S' (listed.setIfInBounds j true) (a.put o.dst v) := by
  have hcase : ∀ (p : Nat) (op : Oper) (u : Value), (ps ++ [(o, v)])[p]? = some (op, u) → (p < ps.length ∧ ps[p]? = some (op, u)) ∨ (p = ps.length ∧ op = o ∧ u = v) := by
    intro p op u h
    rcases Nat.lt_trichotomy p ps.length with h1 | h1 | h1
    · rw [List.getElem?_append_left h1] at h; exact .inl ⟨h1, h⟩
    · subst h1
      simp at h
      exact .inr ⟨rfl, h.1.symm, h.2.symm⟩
    · rw [List.getElem?_eq_none (by simp; omega)] at h; cases h
  have hplt : ps.length < ord.length := (List.getElem?_eq_some_iff.1 hj).1
  have hu : listed.getD j true = false := M.ahead ps.length j (Nat.le_refl _) hj
  have hjl : j < listed.size := by rw [M.size]; exact (Array.getElem?_eq_some_iff.1 ho).1
  refine ⟨by simpa using M.size, by rw [List.length_append]; exact hplt, fun i oi hi hl e hem hb => ?_, by rw [put_defers]; exact M.defers, by rw [put_size]; exact M.tsize, fun q i hq hi => ?_, fun p op u h => ?_, fun p op u i h hi hf => ?_, fun p op u h hf => ?_, fun t k hk hw => ?_⟩
  · rw [getD_set hjl] at hl ⊢
    split
    · rfl
    · by_cases hij : i = j
      · subst hij
        rw [ho] at hi; cases hi
        exact he e hem hb
      · rw [if_neg hij] at hl
        exact M.down i oi hi hl e hem hb
  · simp at hq
    rw [getD_set hjl, if_neg]
    · exact M.ahead q i (by omega) hi
    · rintro rfl
      have := ord_inj F hi hj
      omega
  · rcases hcase p op u h with ⟨_, h1⟩ | ⟨rfl, rfl, rfl⟩
    · exact M.pss p op u h1
    · exact ⟨j, hj, ho⟩
  · rw [getD_set hjl]
    split
    · rfl
    · rcases hcase p op u h with ⟨_, h1⟩ | ⟨rfl, rfl, rfl⟩
      · exact M.done p op u i h1 hi hf
      · rw [hj] at hi; cases hi
        rename_i hne
        exact absurd rfl hne
  · rcases hcase p op u h with ⟨h0, h1⟩ | ⟨rfl, rfl, rfl⟩
    · rw [stateAt_snoc _ _ _ (Nat.le_of_lt h0)]
      exact (M.quiet p op u h1 hf).stronger hs
    · rw [hef] at hf; cases hf
  · have hsl : ∀ (p : Nat) (op : Oper) (u : Value) (i : Nat), ps[p]? = some (op, u) → ord[p]? = some i → i ≠ j := fun p op u i hp hi => by
      rintro rfl
      have := ord_inj F hi hj
      have := (List.getElem?_eq_some_iff.1 hp).1
      omega
    by_cases hk2 : k ≤ ps.length
    · rw [stateAt_snoc _ _ _ hk2]
      have hnd : o.dst ≠ some t := fun hd => by
        have := (hw ps.length o v j (by simp) hj hd).1 (by rw [getD_set hjl, if_pos rfl])
        omega
      rw [put_tmps_ne hnd]
      refine M.slots t k hk2 fun p op u i hp hi hd => ?_
      rw [← hw p op u i (by rw [List.getElem?_append_left (List.getElem?_eq_some_iff.1 hp).1]; exact hp) hi hd, getD_set hjl, if_neg (hsl p op u i hp hi)]
    · have hk3 : k = ps.length + 1 := by simp at hk; omega
      subst hk3
      rw [stateAt_last]
      by_cases hd : o.dst = some t
      · rw [hd]
        exact put_tmps_eq (M.tsize.trans (stateAt_facts a0 ps ps.length).1.symm)
      · rw [put_tmps_ne hd, put_tmps_ne hd]
        refine M.slots t ps.length (Nat.le_refl _) fun p op u i hp hi hdp => ?_
        have hpl := (List.getElem?_eq_some_iff.1 hp).1
        have h9 := hw p op u i (by rw [List.getElem?_append_left hpl]; exact hp) hi hdp
        rw [getD_set hjl, if_neg (hsl p op u i hp hi)] at h9
        rw [h9]
        omega
theorem seq_listed (F : SeqFacts ops eff ord) (hs : listed.size = ops.size) (h : Region.ready .any ops listed = []) : ∀ j, listed.getD j true = true := by
  have key : ∀ (q j : Nat), ord[q]? = some j → listed.getD j true = true := by
    intro q
    induction q using Nat.strongRecOn with
    | _ q ih =>
      intro j hj
      cases hl : listed.getD j true with
      | true => rfl
      | false =>
        exfalso
        have hql : q < ord.length := (List.getElem?_eq_some_iff.1 hj).1
        obtain ⟨j', o, hj', ho, _, hed, _⟩ := F.at_ q hql
        rw [hj] at hj'; cases hj'
        have hjl : j < ops.size := (Array.getElem?_eq_some_iff.1 ho).1
        have hm : j ∈ Region.ready .any ops listed := by
          unfold Region.ready
          simp only [List.mem_filter, List.mem_range, Bool.and_eq_true, Bool.not_eq_true']
          refine ⟨hjl, hl, ?_⟩
          rw [ho]
          simp only [Option.map_some, Option.getD_some, Array.all_eq_true_iff_forall_mem, Bool.or_eq_true, Bool.not_eq_true']
          intro e hem
          cases hb : Region.binds .any e with
          | false => exact .inl rfl
          | true =>
            obtain ⟨p, hp, hpo⟩ := mem_take_pos (hed e hem hb)
            have h2 := ih p hp e.on hpo
            have hpl : p < ord.length := (List.getElem?_eq_some_iff.1 hpo).1
            obtain ⟨i', o', hi', ho', _⟩ := F.at_ p hpl
            rw [hpo] at hi'; cases hi'
            have h3 : e.on < listed.size := by rw [hs]; exact (Array.getElem?_eq_some_iff.1 ho').1
            rw [getD_both h3]
            exact .inr h2
        rw [h] at hm
        cases hm
  intro j
  rcases Nat.lt_or_ge j listed.size with hlt | hge
  · obtain ⟨q, hq⟩ := List.getElem?_of_mem (F.mem j (by omega))
    exact key q j hq
  · simp [Array.getD, Nat.not_lt.2 hge]
theorem seq_any (F : SeqFacts ops eff ord) {R : Act → World → Prop} {Q : Exit → Act → World → Prop} (hQ : ∀ a w, R a w → Q .normal a w) :
    ∀ (fuel : Nat) (ps : List (Oper × Value)) (rest : List Oper) (S : World → Prop) (listed : Array Bool) (a : Act) (w : World), Mid P ops eff ord a0 ps S listed a →
      (∀ q : Nat, ps.length ≤ q → ((ord[q]?).bind (ops[·]?)) = rest[q - ps.length]?) → S w → wpSeq P ops eff R rest S (stateAt a0 ps ps.length) w → listed.toList.count false ≤ fuel →
      wpAny P .any ops Q fuel listed a w := by
  -- the quiet operations that stand next are reckoned at once
  have adv : ∀ (rest : List Oper) (ps : List (Oper × Value)) (S : World → Prop) (listed : Array Bool) (a : Act) (w : World), Mid P ops eff ord a0 ps S listed a →
      (∀ q : Nat, ps.length ≤ q → ((ord[q]?).bind (ops[·]?)) = rest[q - ps.length]?) → wpSeq P ops eff R rest S (stateAt a0 ps ps.length) w →
      ∃ ps' rest', Mid P ops eff ord a0 ps' S listed a ∧ (∀ q : Nat, ps'.length ≤ q → ((ord[q]?).bind (ops[·]?)) = rest'[q - ps'.length]?) ∧ wpSeq P ops eff R rest' S (stateAt a0 ps' ps'.length) w ∧ (rest' = [] ∨ ∃ o r, rest' = o :: r ∧ eff o = true) := by
    intro rest
    induction rest with
    | nil => intro ps S listed a w M hr hw; exact ⟨ps, [], M, hr, hw, .inl rfl⟩
    | cons o rest ih =>
      intro ps S listed a w M hr hw
      cases hef : eff o with
      | true => exact ⟨ps, o :: rest, M, hr, hw, .inr ⟨o, rest, rfl, hef⟩⟩
      | false =>
        rcases hw with ⟨_, v, hst, hw⟩ | ⟨h, _⟩
        · have h0 := hr ps.length (Nat.le_refl _)
          rw [Nat.sub_self] at h0
          simp only [List.getElem?_cons_zero] at h0
          obtain ⟨j, hj, ho⟩ := Option.bind_eq_some_iff.1 h0
          refine ih (ps ++ [(o, v)]) S listed a w (mid_more F M hj ho hef hst) (fun q hq => ?_) ?_
          · simp only [List.length_append, List.length_singleton] at hq ⊢
            rw [hr q (by omega), show q - ps.length = (q - (ps.length + 1)) + 1 from by omega, List.getElem?_cons_succ]
          · rw [List.length_append, List.length_singleton, stateAt_last]
            exact hw
        · rw [hef] at h; cases h
  have fin : ∀ (ps : List (Oper × Value)) (rest : List Oper) (S : World → Prop) (listed : Array Bool) (a : Act) (w : World), Mid P ops eff ord a0 ps S listed a →
      (∀ q : Nat, ps.length ≤ q → ((ord[q]?).bind (ops[·]?)) = rest[q - ps.length]?) → wpSeq P ops eff R rest S (stateAt a0 ps ps.length) w → (∀ j, listed.getD j true = true) → Q .normal a w := by
    intro ps rest S listed a w M hr hw hall
    have hpl : ps.length = ord.length := by
      rcases Nat.lt_or_ge ps.length ord.length with h | h
      · have hj := List.getElem?_eq_getElem h
        have := M.ahead ps.length _ (Nat.le_refl _) hj
        rw [hall] at this; cases this
      · have := M.plen
        omega
    have hrest : rest = [] := by
      cases rest with
      | nil => rfl
      | cons o r =>
        have h0 := hr ps.length (Nat.le_refl _)
        rw [Nat.sub_self, List.getElem?_eq_none (by omega)] at h0
        simp at h0
    subst hrest
    have ha : a = stateAt a0 ps ps.length := by
      obtain ⟨ta, da⟩ := a
      have e1 : ta = (stateAt a0 ps ps.length).tmps := Array.ext_getElem? fun t => M.slots t ps.length (Nat.le_refl _) fun p o v j hp hj hd => by
        simp only [hall j, true_iff]
        exact (List.getElem?_eq_some_iff.1 hp).1
      have e2 : da = (stateAt a0 ps ps.length).defers := M.defers.trans (stateAt_facts _ _ _).2.symm
      rw [e1, e2]
    rw [ha]
    exact hQ _ _ hw
  intro fuel
  induction fuel with
  | zero =>
    intro ps rest S listed a w M hr hS hw hc
    have hall : ∀ j, listed.getD j true = true := by
      intro j
      rcases Nat.lt_or_ge j listed.size with hlt | hge
      · cases hl : listed.getD j true with
        | true => rfl
        | false =>
          have hv : listed[j] = false := by simpa [Array.getD, hlt] using hl
          have hm : false ∈ listed.toList := by
            rw [← hv]
            exact Array.mem_toList_iff.2 (Array.getElem_mem hlt)
          have := List.count_pos_iff.2 hm
          omega
      · simp [Array.getD, Nat.not_lt.2 hge]
    refine ⟨?_, fin ps rest S listed a w M hr hw hall⟩
    rcases hrd : Region.ready .any ops listed with _ | ⟨i, r⟩
    · rfl
    · have := (ready_spec (ops := ops) (listed := listed) (i := i) (by rw [hrd]; simp)).1
      rw [hall] at this
      cases this
  | succ fuel ih =>
    intro ps0 rest0 S listed a w M0 hr0 hS hw0 hc
    obtain ⟨ps, rest, M, hr, hw, hnext⟩ := adv rest0 ps0 S listed a w M0 hr0 hw0
    refine ⟨fun hrd => fin ps rest S listed a w M hr hw (seq_listed F M.size hrd), fun j hjr => ?_⟩
    obtain ⟨hu, o, ho, he⟩ := ready_spec hjr
    have hjl : j < ops.size := (Array.getElem?_eq_some_iff.1 ho).1
    obtain ⟨q, hq⟩ := List.getElem?_of_mem (F.mem j hjl)
    have hc' := count_set hu hc
    unfold wpOp
    simp only [ho]
    rcases Nat.lt_or_ge q ps.length with hlt | hge
    · -- one of those reckoned
      have hp : ∃ x, ps[q]? = some x := ⟨_, List.getElem?_eq_getElem hlt⟩
      obtain ⟨⟨o', v⟩, hp⟩ := hp
      obtain ⟨j', hj', ho'⟩ := M.pss q o' v hp
      rw [hq] at hj'; cases hj'
      rw [ho] at ho'; cases ho'
      have hef : eff o = false := by
        cases hef : eff o with
        | false => rfl
        | true =>
          have := M.done q o v j hp hq hef
          rw [hu] at this; cases this
      have M' := mid_put F M hp hq hu he
      have hst := M.quiet q o v hp hef
      obtain ⟨e1, e2⟩ := mid_same F M (Nat.le_of_lt hlt) hq ho hu he
      rcases hst with ⟨h1, h2⟩ | ⟨h1, rfl⟩
      · rw [if_pos (by rw [e2]; exact h1)]
        refine .inl ?_
        unfold Oper.wp
        rw [e1, h2 w hS]
        exact ih ps rest S _ _ w M' hr hS hw hc'
      · rw [if_neg (by rw [e2, h1]; simp)]
        exact ih ps rest S _ _ w M' hr hS hw hc'
    · -- the deed that stands next
      have hql : q < ord.length := (List.getElem?_eq_some_iff.1 hq).1
      rcases hnext with rfl | ⟨o', r, rfl, hef⟩
      · have h0 := hr q hge
        rw [hq] at h0
        simp [ho] at h0
      · have h0 := hr ps.length (Nat.le_refl _)
        rw [Nat.sub_self] at h0
        simp only [List.getElem?_cons_zero] at h0
        obtain ⟨i, hi, hoi⟩ := Option.bind_eq_some_iff.1 h0
        have hqe : q = ps.length := by
          rcases Nat.lt_or_ge ps.length q with h | h
          · exfalso
            obtain ⟨j', oj', hj', hoj', _, _, hpair⟩ := F.at_ q hql
            rw [hq] at hj'; cases hj'
            obtain ⟨i', oi', hi', hoi', _, _, hbl⟩ := hpair ps.length h
            rw [hi] at hi'; cases hi'
            rw [hoi] at hoi'; cases hoi'
            have h5 := below_listed M.down M.size ops.size j (fun oj hoj => by rw [ho] at hoj; cases hoj; exact he) i (hbl hef)
            have hil : i < listed.size := by rw [M.size]; exact (Array.getElem?_eq_some_iff.1 hoi).1
            rw [getD_both hil, M.ahead ps.length i (Nat.le_refl _) hi] at h5
            cases h5
          · omega
        subst hqe
        rw [hq] at hi; cases hi
        rw [ho] at hoi; cases hoi
        rcases hw with ⟨h, _⟩ | ⟨_, hwant, hdo⟩
        · rw [hef] at h; cases h
        · obtain ⟨e1, e2⟩ := mid_same F M (Nat.le_refl _) hq ho hu he
          rw [if_pos (by rw [e2]; exact hwant)]
          refine .inl ?_
          rw [← e1] at hdo
          refine hdo.wp fun v w' ⟨S', hS', himp, hw'⟩ => ?_
          refine ih (ps ++ [(o, v)]) r S' _ _ w' (mid_deed F M hq ho hef he himp) (fun k hk => ?_) hS' ?_ hc'
          · simp only [List.length_append, List.length_singleton] at hk ⊢
            rw [hr k (by omega), show k - ps.length = (k - (ps.length + 1)) + 1 from by omega, List.getElem?_cons_succ]
          · rw [List.length_append, List.length_singleton, stateAt_last]
            exact hw'
end
def byNum (l : List Oper) : List Nat → List Oper
  | [] => []
  | i :: r => match l[i]? with
    | some o => o :: byNum l r
    | none => byNum l r
theorem byNum_at {l : List Oper} : ∀ (ord : List Nat), (∀ i ∈ ord, i < l.length) → ∀ q : Nat, ((ord[q]?).bind (l[·]?)) = (byNum l ord)[q]?
  | [], _, q => by simp [byNum]
  | i :: r, h, q => by
    have hi := h i List.mem_cons_self
    have e : l[i]? = some l[i] := List.getElem?_eq_getElem hi
    unfold byNum
    rw [e]
    cases q with
    | zero => simp [e]
    | succ q => simpa using byNum_at r (fun j hj => h j (List.mem_cons_of_mem _ hj)) q
theorem wp_region_seq {id : Nat} {a : Act} {w : World} {Q : Exit → Act → World → Prop} (eff : Oper → Bool) (ord : List Nat) (S : World → Prop) {l : List Oper} (hm : P.follows .mixedOrders = true) (hok : seqChk l.toArray eff ord = true) (hS : S w.drew)
    (h : wpSeq P l.toArray eff (fun a' w' => Q .normal a' w') (byNum l ord) S a w.drew) : (Code.region id l.toArray true).wp P Q a w := by
  have F := seqChk_spec hok
  refine wp_region_any hm ?_
  have hmem : ∀ i ∈ ord, i < l.length := fun i hi => by
    obtain ⟨q, hq⟩ := List.getElem?_of_mem hi
    obtain ⟨j, oj, hj, hoj, _⟩ := F.at_ q (List.getElem?_eq_some_iff.1 hq).1
    rw [hq] at hj; cases hj
    simpa using (Array.getElem?_eq_some_iff.1 hoj).1
  refine seq_any (a0 := a) F (R := fun a' w' => Q .normal a' w') (fun _ _ h => h) _ [] (byNum l ord) S _ a _ ?_ (fun q _ => ?_) hS (by simpa [stateAt] using h) (Nat.le_trans List.count_le_length (by simp))
  · refine ⟨by simp, by simp, fun j oj hj hl => ?_, rfl, rfl, fun q j _ hj => ?_, by simp, by simp, by simp, fun t k hk _ => ?_⟩
    · have hlt : j < l.toArray.size := (Array.getElem?_eq_some_iff.1 hj).1
      have hlt' : j < l.length := by simpa using hlt
      simp [Array.getD, hlt'] at hl
    · have hjl := hmem j (List.mem_of_getElem? hj)
      simp [Array.getD, hjl]
    · simp [stateAt]
  · have := byNum_at (l := l) ord hmem q
    simpa using this
def deed (o : Oper) : Bool := match o.op with
  | .call c => match c.callee with
    | .builtin b => match b with
      | .append => true
      | .copy => true
      | _ => false
    | _ => true
  | .store .. => true
  | .alloc .. => true
  | .box .. => true
  | .buildSlice .. => true
  | .makeSlice .. => true
  | .makeFunc .. => true
  | .makeMap .. => true
  | _ => false
section
variable {ops : Array Oper} {eff : Oper → Bool} {R : Act → World → Prop} {S : World → Prop} {a : Act} {w : World} {o : Oper} {rest : List Oper}
theorem seq_nil (h : R a w) : wpSeq P ops eff R [] S a w := h
theorem seq_skip (he : eff o = false) (hw : Region.wanted o (yielded ops a.tmps) = false) (hr : wpSeq P ops eff R rest S (a.put o.dst undef) w) : wpSeq P ops eff R (o :: rest) S a w := .inl ⟨he, undef, .inr ⟨hw, rfl⟩, hr⟩
theorem seq_val {v : Value} (he : eff o = false) (hw : Region.wanted o (yielded ops a.tmps) = true) (h : ∀ w, S w → (execOp a.eval o).run P w = .ok (.value v) w) (hr : wpSeq P ops eff R rest S (a.put o.dst v) w) : wpSeq P ops eff R (o :: rest) S a w :=
  .inl ⟨he, v, .inl ⟨hw, h⟩, hr⟩
theorem seq_call {f : FuncId} {args : Array Value} (he : eff o = true) (hw : Region.wanted o (yielded ops a.tmps) = true) (hf : (execOp a.eval o).run P w = .ok (.enter f args) w)
    (h : Calls P f args w fun e w' => ∃ v, e = .returned v ∧ ∃ S' : World → Prop, S' w' ∧ (∀ W, S' W → S W) ∧ wpSeq P ops eff R rest S' (a.put o.dst v) w') : wpSeq P ops eff R (o :: rest) S a w :=
  .inr ⟨he, hw, by unfold Does; rw [hf]; exact h⟩
theorem seq_deed {v : Value} {w' : World} (he : eff o = true) (hw : Region.wanted o (yielded ops a.tmps) = true) (hf : (execOp a.eval o).run P w = .ok (.value v) w')
    (h : ∃ S' : World → Prop, S' w' ∧ (∀ W, S' W → S W) ∧ wpSeq P ops eff R rest S' (a.put o.dst v) w') : wpSeq P ops eff R (o :: rest) S a w :=
  .inr ⟨he, hw, by unfold Does; rw [hf]; exact h⟩
theorem seq_store {w' : World} (he : eff o = true) (hw : Region.wanted o (yielded ops a.tmps) = true) (hf : (execOp a.eval o).run P w = .ok .skip w')
    (h : ∃ S' : World → Prop, S' w' ∧ (∀ W, S' W → S W) ∧ wpSeq P ops eff R rest S' (a.put o.dst undef) w') : wpSeq P ops eff R (o :: rest) S a w :=
  .inr ⟨he, hw, by unfold Does; rw [hf]; exact h⟩
end
end
/-! ### append of a slice that reads -/
section
open Go.RowKit
variable {P : Program} (w : World)
theorem run_append_of_nil (base : Nat) (t ty e : TypeId) (i : TypeInfo) (size : Nat) (ht : P.underlying t = some (.slice e)) (hi : P.info? e = some i)
    (v : Value) (n : Nat) (xs : List Value) (hown : w.ownsRow base e size v n xs) (c : Nat) : (Builtin.append_ #[t, t] ty #[v, .slice none 0 c]).run P w = .ok v w := by
  rcases hown.2 with ⟨rfl, rfl⟩ | ⟨g, cap, cur, rfl, _, _, hnc, _⟩
  · simp [Builtin.append_, run_underlying ht, sizeOf, typeInfo, hi, Builtin.lenOf, Builtin.firstCells]
  · simp [Builtin.append_, run_underlying ht, sizeOf, typeInfo, hi, Builtin.lenOf, Builtin.firstCells, hnc, storeCells]
theorem run_append_any (base : Nat) (t ty e : TypeId) (i : TypeInfo) (z : Value) (size bytes : Nat) (ht : P.underlying t = some (.slice e)) (hi : P.info? e = some i) (hz : i.zero = some z)
    (hsize : i.size = size) (hby : i.bytes = bytes) (hzs : z.cells.size = size) (hsz : 0 < size)
    (v : Value) (n : Nat) (xs : List Value) (hown : w.ownsRow base e size v n xs)
    (B : Nat) (A : Option Addr) (m c : Nat) (news : List Value) (hr : Reads w B size A m news) (hm0 : A = none → m = 0) (h1 : ∀ u ∈ news, u.oneCell' = true)
    (h63 : n + m ≤ maxLen) (hbytes : (n + m) * bytes ≤ 140737488355328) (hbase : base ≤ w.heap.size) :
    ∃ v' w', (Builtin.append_ #[t, t] ty #[v, .slice A m c]).run P w = .ok v' w' ∧ w'.ownsRow base e size v' (n + m) (xs ++ news) ∧ w.grownBy w' v.ownBlock := by
  rcases A with _ | ad
  · have hm : m = 0 := hm0 rfl
    subst hm
    have hn : news = [] := List.eq_nil_of_length_eq_zero (by simpa using hr.1)
    subst hn
    exact ⟨v, w, run_append_of_nil w base t ty e i size ht hi v n xs hown c, by simpa using hown, World.grownBy.refl w _⟩
  · have hcells : ∀ j u, news[j]? = some u → w.cell? (ad.add j) = some u := by
      intro j u hu
      rcases Nat.eq_zero_or_pos m with h0 | h0
      · subst h0
        have hn : news = [] := List.eq_nil_of_length_eq_zero (by simpa using hr.1)
        subst hn
        simp at hu
      · obtain ⟨ad', h, _, hc⟩ := hr.2 h0
        injection h with h
        subst h
        exact hc j u hu
    obtain ⟨v', w', hrun, h2, h3, _, _⟩ := run_append_own_at (P := P) w base t ty e i z size bytes ht hi hz hsize hby hzs hsz v n xs hown ad m c news hr.1 hcells h1 h63 hbytes hbase
    exact ⟨v', w', hrun, h2, h3⟩
theorem seq_append {ops : Array Oper} {eff : Oper → Bool} {R : Act → World → Prop} {S : World → Prop} {a : Act} {o : Oper} {rest : List Oper} (he : eff o = true) (hw : Region.wanted o (yielded ops a.tmps) = true) (s x : Operand) (t : TypeId)
    (ho : o.op = .call { callee := .builtin .append, args := #[s, x], argTypes := #[t, t] })
    (base : Nat) (e : TypeId) (i : TypeInfo) (z : Value) (size bytes : Nat) (ht : P.underlying t = some (.slice e)) (hi : P.info? e = some i) (hz : i.zero = some z)
    (hsize : i.size = size) (hby : i.bytes = bytes) (hzs : z.cells.size = size) (hsz : 0 < size)
    (v : Value) (n : Nat) (xs : List Value) (hs : a.eval s = v) (hown : w.ownsRow base e size v n xs)
    (B : Nat) (A : Option Addr) (m c : Nat) (news : List Value) (hx : a.eval x = .slice A m c) (hr : Reads w B size A m news) (hm0 : A = none → m = 0) (h1 : ∀ u ∈ news, u.oneCell' = true)
    (h63 : n + m ≤ maxLen) (hbytes : (n + m) * bytes ≤ 140737488355328) (hbase : base ≤ w.heap.size)
    (h : ∀ A' c' w', w'.ownsRow base e size (.slice A' (n + m) c') (n + m) (xs ++ news) → w.grownBy w' v.ownBlock → ∃ S' : World → Prop, S' w' ∧ (∀ W, S' W → S W) ∧ wpSeq P ops eff R rest S' (a.put o.dst (.slice A' (n + m) c')) w') :
    wpSeq P ops eff R (o :: rest) S a w := by
  obtain ⟨v', w', hrun, h2, h3⟩ := run_append_any (P := P) w base t o.type e i z size bytes ht hi hz hsize hby hzs hsz v n xs hown B A m c news hr hm0 h1 h63 hbytes hbase
  have hv : ∃ A' c', v' = .slice A' (n + m) c' := by
    rcases h2.2 with ⟨rfl, h0⟩ | ⟨g, cap, _, rfl, _⟩
    · exact ⟨none, 0, by rw [h0]⟩
    · exact ⟨_, _, rfl⟩
  obtain ⟨A', c', rfl⟩ := hv
  refine seq_deed (v := .slice A' (n + m) c') (w' := w') he hw ?_ (h A' c' w' h2 h3)
  unfold execOp
  simp only [ho, resolve, invoke, builtin, Sem.run_bind, Sem.run_pure, Result.andThen_ok, List.map_toArray, List.map_cons, List.map_nil, hs, hx, hrun]
end
end Go.Proofs.Ytbeojfhakmbacaa
namespace Go.Proofs.Ytbeojfhakmbacaa
open Go.RowKit
theorem within_c (n a b : Int) (w : World) : Calls Try.prog 63 #[.int .i64 n, .int .i64 a, .int .i64 b] w fun e w' => e = .returned (.bool (wi n a b)) ∧ w = w' := by
  go_enter Try.func63, Try.ntmps63
  go_wp2
  all_goals (go_returns; exact ⟨ret_eq (by first | (simp [wi, *]; done) | (simp [wi, *]; omega)), rfl⟩)
theorem l1In_c (n a b : Int) (w : World) : Calls Try.prog 98 #[.int .i64 n, .int .i64 a, .int .i64 b] w fun e w' => e = .returned (.bool (wi n a b)) ∧ w = w' := by
  go_enter Try.func98, Try.ntmps98
  go_wp2
  all_goals (go_returns; exact ⟨ret_eq (by first | (simp [wi, *]; done) | (simp [wi, *]; omega)), rfl⟩)
theorem size_c (o : Bool) (a b : Int) (w : World) : Calls Try.prog 78 #[.agg #[.bool o, .int .i64 a, .int .i64 b]] w (Gives w (.int .i64 (szOf o))) := by
  cases o
  all_goals
    go_enter Try.func78, Try.ntmps78
    go_wp2
    all_goals (go_returns; exact ⟨ret_eq (by rfl), by go_grown⟩)
theorem l7Size_c (o : Bool) (w : World) : Calls Try.prog 109 #[.bool o] w fun e w' => e = .returned (.int .i64 (szOf o)) ∧ w = w' := by
  cases o
  all_goals
    go_enter Try.func109, Try.ntmps109
    go_wp2
    all_goals (go_returns; exact ⟨ret_eq (by rfl), rfl⟩)
theorem validRep_c (o : Bool) (a b : Int) (w : World) : Calls Try.prog 101 #[.agg #[.bool o, .int .i64 a, .int .i64 b]] w (Gives w (.bool (vR o a b))) := by
  have hs := szOf_two o
  have e1 : IntKind.i64.wrap (szOf o - 1) = szOf o - 1 := IntWalk.i64_in _ (by omega)
  cases h : wi a 0 (szOf o - 1)
  all_goals
    go_enter Try.func101, Try.ntmps101
    go_wp2
    refine wp_region_det (fun w' => w'.cell? ⟨w.heap.size, 0, none⟩ = some (.bool o) ∧ w'.cell? ⟨w.heap.size, 1, none⟩ = some (.int .i64 a) ∧ w'.cell? ⟨w.heap.size, 2, none⟩ = some (.int .i64 b) ∧ Below w.heap.size w w') (by kernel_rfl) (by kernel_rfl) (by first | assumption | (exact hS) | (refine ⟨?_, ?_, ?_, ?_⟩ <;> (first | (simp [go_sem]; done) | (simp [go_sem, *]; done) | (go_grown; done)))) ?_
    repeat (first
      | ((refine wpDet_skip (by rfl) ?_); simp only [Act.put, zp1, zp2, zp3])
      | ((refine wpDet_val (v := ?_) (by rfl) (fun w hS => ?_) ?_); rotate_left; (focus ((try dsimp only at hS); go_simp; (try (with_reducible rfl)); done)); simp only [Act.put, zp1, zp2, zp3])
      | ((refine wpDet_call (v := ?_) (f := ?_) (args := ?_) (by rfl) (fun w => ?_) (fun w hS => ?_) ?_); rotate_left; rotate_left; rotate_left; (focus (go_simp; (constructor <;> (with_reducible rfl)); done)); (focus (first | (go_at_call 78; refine (size_c _ _ _ _).mono ?_; intro e w' h; refine ⟨h.1.trans ?_, keep3 hS h.2⟩; with_reducible rfl) | (go_at_call 63; refine (within_c _ _ _ _).mono ?_; intro e w' h; refine ⟨h.1.trans ?_, h.2 ▸ hS⟩; with_reducible rfl))); simp only [Act.put, zp1, zp2, zp3]))
    refine wpDet_nil ?_
    intro w1 hS
    have hT : w1.cell? ⟨w.heap.size, 0, none⟩ = some (.bool o) ∧ w1.cell? ⟨w.heap.size, 1, none⟩ = some (.int .i64 a) ∧ w1.cell? ⟨w.heap.size, 2, none⟩ = some (.int .i64 b) ∧ Below w.heap.size w w1 := hS
    clear hS
    have hS := hT
    obtain ⟨c0, c1, c2, hB⟩ := hT
    go_wp2
    go_ret
    exact ⟨ret_eq (by simp [vR, h]), hB⟩
theorem l7Report_c (o : Bool) (a b : Int) (w : World) : Calls Try.prog 120 #[.agg #[.bool o, .int .i64 a, .int .i64 b]] w (Gives w (.bool (vR o a b))) := by
  have hs := szOf_two o
  have e1 : IntKind.i64.wrap (szOf o - 1) = szOf o - 1 := IntWalk.i64_in _ (by omega)
  cases h : wi a 0 (szOf o - 1)
  all_goals
    go_enter Try.func120, Try.ntmps120
    go_wp2
    refine wp_region_det (fun w' => w'.cell? ⟨w.heap.size, 0, none⟩ = some (.bool o) ∧ w'.cell? ⟨w.heap.size, 1, none⟩ = some (.int .i64 a) ∧ w'.cell? ⟨w.heap.size, 2, none⟩ = some (.int .i64 b) ∧ Below w.heap.size w w') (by kernel_rfl) (by kernel_rfl) (by first | assumption | (exact hS) | (refine ⟨?_, ?_, ?_, ?_⟩ <;> (first | (simp [go_sem]; done) | (simp [go_sem, *]; done) | (go_grown; done)))) ?_
    repeat (first
      | ((refine wpDet_skip (by rfl) ?_); simp only [Act.put, zp1, zp2, zp3])
      | ((refine wpDet_val (v := ?_) (by rfl) (fun w hS => ?_) ?_); rotate_left; (focus ((try dsimp only at hS); go_simp; (try (with_reducible rfl)); done)); simp only [Act.put, zp1, zp2, zp3])
      | ((refine wpDet_call (v := ?_) (f := ?_) (args := ?_) (by rfl) (fun w => ?_) (fun w hS => ?_) ?_); rotate_left; rotate_left; rotate_left; (focus (go_simp; (constructor <;> (with_reducible rfl)); done)); (focus (first | (go_at_call 109; refine (l7Size_c _ _).mono ?_; intro e w' h; refine ⟨h.1.trans ?_, h.2 ▸ hS⟩; with_reducible rfl) | (go_at_call 98; refine (l1In_c _ _ _ _).mono ?_; intro e w' h; refine ⟨h.1.trans ?_, h.2 ▸ hS⟩; with_reducible rfl))); simp only [Act.put, zp1, zp2, zp3]))
    refine wpDet_nil ?_
    intro w1 hS
    have hT : w1.cell? ⟨w.heap.size, 0, none⟩ = some (.bool o) ∧ w1.cell? ⟨w.heap.size, 1, none⟩ = some (.int .i64 a) ∧ w1.cell? ⟨w.heap.size, 2, none⟩ = some (.int .i64 b) ∧ Below w.heap.size w w1 := hS
    clear hS
    have hS := hT
    obtain ⟨c0, c1, c2, hB⟩ := hT
    go_wp2
    go_ret
    exact ⟨ret_eq (by simp [vR, h]), hB⟩
theorem isMinute_c (n : Int) (w : World) : Calls Try.prog 61 #[.int .i64 n] w fun e w' => e = .returned (.bool (wi n 0 9999)) ∧ w = w' := by
  go_enter Try.func61, Try.ntmps61
  go_wp2_with (first | (go_at_call 63; refine (within_c _ _ _ _).mono ?_; rintro e w1 ⟨rfl, rfl⟩))
  all_goals (go_returns; exact ⟨ret_eq (by rfl), rfl⟩)
theorem isAddress_c (n : Int) (w : World) : Calls Try.prog 62 #[.int .i64 n] w fun e w' => e = .returned (.bool (wi n 1 65535)) ∧ w = w' := by
  go_enter Try.func62, Try.ntmps62
  go_wp2_with (first | (go_at_call 63; refine (within_c _ _ _ _).mono ?_; rintro e w1 ⟨rfl, rfl⟩))
  all_goals (go_returns; exact ⟨ret_eq (by rfl), rfl⟩)
theorem l9Minute_c (n : Int) (w : World) : Calls Try.prog 59 #[.int .i64 n] w fun e w' => e = .returned (.bool (wi n 0 9999)) ∧ w = w' := by
  go_enter Try.func59, Try.ntmps59
  go_wp2_with (first | (go_at_call 98; refine (l1In_c _ _ _ _).mono ?_; rintro e w1 ⟨rfl, rfl⟩))
  all_goals (go_returns; exact ⟨ret_eq (by rfl), rfl⟩)
theorem l5Address_c (n : Int) (w : World) : Calls Try.prog 97 #[.int .i64 n] w fun e w' => e = .returned (.bool (wi n 1 65535)) ∧ w = w' := by
  go_enter Try.func97, Try.ntmps97
  go_wp2_with (first | (go_at_call 98; refine (l1In_c _ _ _ _).mono ?_; rintro e w1 ⟨rfl, rfl⟩))
  all_goals (go_returns; exact ⟨ret_eq (by rfl), rfl⟩)
end Go.Proofs.Ytbeojfhakmbacaa
namespace Go.Proofs.Ytbeojfhakmbacaa
open Go.RowKit
set_option maxHeartbeats 1600000 in
theorem isKept_c (o : Bool) (a b t : Int) (od : Bool) (m : Int) (w : World) : Calls Try.prog 64 #[.agg #[.bool o, .int .i64 a, .int .i64 b], .int .i64 t, .bool od, .int .i64 m] w (Gives w (.bool (kpt (o, a, b) t od m))) := by
  by_cases ht : t = -1
  · subst ht
    go_enter Try.func64, Try.ntmps64
    go_wp2
    all_goals
      go_returns
      refine ⟨ret_eq (bool_eq ?_), by go_grown⟩
      unfold kpt
      simp_all
  have hk : kpt (o, a, b) t od m = (wi t 0 m && (decide (o = od) && vR o a b)) := by unfold kpt; rw [if_neg ht]
  rw [hk]
  have htb : (t == -1) = false := beq_eq_false_iff_ne.2 ht
  rcases h1 : wi t 0 m with _ | _
  · go_enter Try.func64, Try.ntmps64
    go_wp2_with (first | (go_at_call 63; refine (within_c _ _ _ _).mono ?_; rintro e w1 ⟨rfl, rfl⟩) | (go_at_call 101; refine (validRep_c _ _ _ _).mono ?_; rintro e w1 ⟨rfl, hb⟩; have hT : w1.cell? ⟨w.heap.size, 0, none⟩ = some (.bool o) ∧ w1.cell? ⟨w.heap.size, 1, none⟩ = some (.int .i64 a) ∧ w1.cell? ⟨w.heap.size, 2, none⟩ = some (.int .i64 b) ∧ Below w.heap.size w w1 := (fun W h hb => ⟨keep_cell (hb) h.1, keep_cell (hb) h.2.1, keep_cell (hb) h.2.2.1, below_via h.2.2.2 (hb)⟩ : ∀ W : World, (W.cell? ⟨w.heap.size, 0, none⟩ = some (.bool o) ∧ W.cell? ⟨w.heap.size, 1, none⟩ = some (.int .i64 a) ∧ W.cell? ⟨w.heap.size, 2, none⟩ = some (.int .i64 b) ∧ Below w.heap.size w W) → Below W.heap.size W w1 → (w1.cell? ⟨w.heap.size, 0, none⟩ = some (.bool o) ∧ w1.cell? ⟨w.heap.size, 1, none⟩ = some (.int .i64 a) ∧ w1.cell? ⟨w.heap.size, 2, none⟩ = some (.int .i64 b) ∧ Below w.heap.size w w1)) _ (by first | (with_reducible assumption) | (exact hS) | (exact ⟨hS.1, hS.2.1, hS.2.2.1, (by go_grown)⟩) | (exact ⟨(by first | (with_reducible assumption) | (simp [go_sem]; done) | ((simp only [go_sem]); (with_reducible assumption)) | ((refine keep_cell ?_ (by with_reducible assumption)); go_grown; done) | (simp [go_sem, *]; done)), (by first | (with_reducible assumption) | (simp [go_sem]; done) | ((simp only [go_sem]); (with_reducible assumption)) | ((refine keep_cell ?_ (by with_reducible assumption)); go_grown; done) | (simp [go_sem, *]; done)), (by first | (with_reducible assumption) | (simp [go_sem]; done) | ((simp only [go_sem]); (with_reducible assumption)) | ((refine keep_cell ?_ (by with_reducible assumption)); go_grown; done) | (simp [go_sem, *]; done)), (by go_grown)⟩)) hb; (try clear hS); have hS := hT; clear hT; have hB := hS.2.2.2; have hzw : w.heap.size ≤ w1.heap.size := hB.size; have hz1 : w.heap.size < w1.heap.size := World.block_lt_of_cell? w1 _ (hS.1); clear hb))
    go_returns
    exact ⟨ret_eq (by simp), by go_grown⟩
  by_cases h2 : o = od
  · subst h2
    rcases h3 : vR o a b with _ | _
    all_goals
      go_enter Try.func64, Try.ntmps64
      go_wp2_with (first | (go_at_call 63; refine (within_c _ _ _ _).mono ?_; rintro e w1 ⟨rfl, rfl⟩) | (go_at_call 101; refine (validRep_c _ _ _ _).mono ?_; rintro e w1 ⟨rfl, hb⟩; have hT : w1.cell? ⟨w.heap.size, 0, none⟩ = some (.bool o) ∧ w1.cell? ⟨w.heap.size, 1, none⟩ = some (.int .i64 a) ∧ w1.cell? ⟨w.heap.size, 2, none⟩ = some (.int .i64 b) ∧ Below w.heap.size w w1 := (fun W h hb => ⟨keep_cell (hb) h.1, keep_cell (hb) h.2.1, keep_cell (hb) h.2.2.1, below_via h.2.2.2 (hb)⟩ : ∀ W : World, (W.cell? ⟨w.heap.size, 0, none⟩ = some (.bool o) ∧ W.cell? ⟨w.heap.size, 1, none⟩ = some (.int .i64 a) ∧ W.cell? ⟨w.heap.size, 2, none⟩ = some (.int .i64 b) ∧ Below w.heap.size w W) → Below W.heap.size W w1 → (w1.cell? ⟨w.heap.size, 0, none⟩ = some (.bool o) ∧ w1.cell? ⟨w.heap.size, 1, none⟩ = some (.int .i64 a) ∧ w1.cell? ⟨w.heap.size, 2, none⟩ = some (.int .i64 b) ∧ Below w.heap.size w w1)) _ (by first | (with_reducible assumption) | (exact hS) | (exact ⟨hS.1, hS.2.1, hS.2.2.1, (by go_grown)⟩) | (exact ⟨(by first | (with_reducible assumption) | (simp [go_sem]; done) | ((simp only [go_sem]); (with_reducible assumption)) | ((refine keep_cell ?_ (by with_reducible assumption)); go_grown; done) | (simp [go_sem, *]; done)), (by first | (with_reducible assumption) | (simp [go_sem]; done) | ((simp only [go_sem]); (with_reducible assumption)) | ((refine keep_cell ?_ (by with_reducible assumption)); go_grown; done) | (simp [go_sem, *]; done)), (by first | (with_reducible assumption) | (simp [go_sem]; done) | ((simp only [go_sem]); (with_reducible assumption)) | ((refine keep_cell ?_ (by with_reducible assumption)); go_grown; done) | (simp [go_sem, *]; done)), (by go_grown)⟩)) hb; (try clear hS); have hS := hT; clear hT; have hB := hS.2.2.2; have hzw : w.heap.size ≤ w1.heap.size := hB.size; have hz1 : w.heap.size < w1.heap.size := World.block_lt_of_cell? w1 _ (hS.1); clear hb))
      go_returns
      exact ⟨ret_eq (by simp), by go_grown⟩
  have h2b : (o == od) = false := beq_eq_false_iff_ne.2 h2
  rcases h3 : vR o a b with _ | _
  all_goals
    go_enter Try.func64, Try.ntmps64
    go_wp2_with (first | (go_at_call 63; refine (within_c _ _ _ _).mono ?_; rintro e w1 ⟨rfl, rfl⟩) | (go_at_call 101; refine (validRep_c _ _ _ _).mono ?_; rintro e w1 ⟨rfl, hb⟩; have hT : w1.cell? ⟨w.heap.size, 0, none⟩ = some (.bool o) ∧ w1.cell? ⟨w.heap.size, 1, none⟩ = some (.int .i64 a) ∧ w1.cell? ⟨w.heap.size, 2, none⟩ = some (.int .i64 b) ∧ Below w.heap.size w w1 := (fun W h hb => ⟨keep_cell (hb) h.1, keep_cell (hb) h.2.1, keep_cell (hb) h.2.2.1, below_via h.2.2.2 (hb)⟩ : ∀ W : World, (W.cell? ⟨w.heap.size, 0, none⟩ = some (.bool o) ∧ W.cell? ⟨w.heap.size, 1, none⟩ = some (.int .i64 a) ∧ W.cell? ⟨w.heap.size, 2, none⟩ = some (.int .i64 b) ∧ Below w.heap.size w W) → Below W.heap.size W w1 → (w1.cell? ⟨w.heap.size, 0, none⟩ = some (.bool o) ∧ w1.cell? ⟨w.heap.size, 1, none⟩ = some (.int .i64 a) ∧ w1.cell? ⟨w.heap.size, 2, none⟩ = some (.int .i64 b) ∧ Below w.heap.size w w1)) _ (by first | (with_reducible assumption) | (exact hS) | (exact ⟨hS.1, hS.2.1, hS.2.2.1, (by go_grown)⟩) | (exact ⟨(by first | (with_reducible assumption) | (simp [go_sem]; done) | ((simp only [go_sem]); (with_reducible assumption)) | ((refine keep_cell ?_ (by with_reducible assumption)); go_grown; done) | (simp [go_sem, *]; done)), (by first | (with_reducible assumption) | (simp [go_sem]; done) | ((simp only [go_sem]); (with_reducible assumption)) | ((refine keep_cell ?_ (by with_reducible assumption)); go_grown; done) | (simp [go_sem, *]; done)), (by first | (with_reducible assumption) | (simp [go_sem]; done) | ((simp only [go_sem]); (with_reducible assumption)) | ((refine keep_cell ?_ (by with_reducible assumption)); go_grown; done) | (simp [go_sem, *]; done)), (by go_grown)⟩)) hb; (try clear hS); have hS := hT; clear hT; have hB := hS.2.2.2; have hzw : w.heap.size ≤ w1.heap.size := hB.size; have hz1 : w.heap.size < w1.heap.size := World.block_lt_of_cell? w1 _ (hS.1); clear hb))
    go_returns
    exact ⟨ret_eq (by simp [h2]), by go_grown⟩
set_option maxHeartbeats 1600000 in
theorem l9Half_c (o : Bool) (a b t : Int) (od : Bool) (m : Int) (w : World) : Calls Try.prog 99 #[.agg #[.bool o, .int .i64 a, .int .i64 b], .int .i64 t, .bool od, .int .i64 m] w (Gives w (.bool (kpt (o, a, b) t od m))) := by
  by_cases ht : t = -1
  · subst ht
    go_enter Try.func99, Try.ntmps99
    go_wp2
    all_goals
      go_returns
      refine ⟨ret_eq (bool_eq ?_), by go_grown⟩
      unfold kpt
      simp_all
  have hk : kpt (o, a, b) t od m = (wi t 0 m && (decide (o = od) && vR o a b)) := by unfold kpt; rw [if_neg ht]
  rw [hk]
  have htb : (t == -1) = false := beq_eq_false_iff_ne.2 ht
  rcases h1 : wi t 0 m with _ | _
  · go_enter Try.func99, Try.ntmps99
    go_wp2_with (first | (go_at_call 98; refine (l1In_c _ _ _ _).mono ?_; rintro e w1 ⟨rfl, rfl⟩) | (go_at_call 120; refine (l7Report_c _ _ _ _).mono ?_; rintro e w1 ⟨rfl, hb⟩; have hT : w1.cell? ⟨w.heap.size, 0, none⟩ = some (.bool o) ∧ w1.cell? ⟨w.heap.size, 1, none⟩ = some (.int .i64 a) ∧ w1.cell? ⟨w.heap.size, 2, none⟩ = some (.int .i64 b) ∧ Below w.heap.size w w1 := (fun W h hb => ⟨keep_cell (hb) h.1, keep_cell (hb) h.2.1, keep_cell (hb) h.2.2.1, below_via h.2.2.2 (hb)⟩ : ∀ W : World, (W.cell? ⟨w.heap.size, 0, none⟩ = some (.bool o) ∧ W.cell? ⟨w.heap.size, 1, none⟩ = some (.int .i64 a) ∧ W.cell? ⟨w.heap.size, 2, none⟩ = some (.int .i64 b) ∧ Below w.heap.size w W) → Below W.heap.size W w1 → (w1.cell? ⟨w.heap.size, 0, none⟩ = some (.bool o) ∧ w1.cell? ⟨w.heap.size, 1, none⟩ = some (.int .i64 a) ∧ w1.cell? ⟨w.heap.size, 2, none⟩ = some (.int .i64 b) ∧ Below w.heap.size w w1)) _ (by first | (with_reducible assumption) | (exact hS) | (exact ⟨hS.1, hS.2.1, hS.2.2.1, (by go_grown)⟩) | (exact ⟨(by first | (with_reducible assumption) | (simp [go_sem]; done) | ((simp only [go_sem]); (with_reducible assumption)) | ((refine keep_cell ?_ (by with_reducible assumption)); go_grown; done) | (simp [go_sem, *]; done)), (by first | (with_reducible assumption) | (simp [go_sem]; done) | ((simp only [go_sem]); (with_reducible assumption)) | ((refine keep_cell ?_ (by with_reducible assumption)); go_grown; done) | (simp [go_sem, *]; done)), (by first | (with_reducible assumption) | (simp [go_sem]; done) | ((simp only [go_sem]); (with_reducible assumption)) | ((refine keep_cell ?_ (by with_reducible assumption)); go_grown; done) | (simp [go_sem, *]; done)), (by go_grown)⟩)) hb; (try clear hS); have hS := hT; clear hT; have hB := hS.2.2.2; have hzw : w.heap.size ≤ w1.heap.size := hB.size; have hz1 : w.heap.size < w1.heap.size := World.block_lt_of_cell? w1 _ (hS.1); clear hb))
    go_returns
    exact ⟨ret_eq (by simp), by go_grown⟩
  by_cases h2 : o = od
  · subst h2
    rcases h3 : vR o a b with _ | _
    all_goals
      go_enter Try.func99, Try.ntmps99
      go_wp2_with (first | (go_at_call 98; refine (l1In_c _ _ _ _).mono ?_; rintro e w1 ⟨rfl, rfl⟩) | (go_at_call 120; refine (l7Report_c _ _ _ _).mono ?_; rintro e w1 ⟨rfl, hb⟩; have hT : w1.cell? ⟨w.heap.size, 0, none⟩ = some (.bool o) ∧ w1.cell? ⟨w.heap.size, 1, none⟩ = some (.int .i64 a) ∧ w1.cell? ⟨w.heap.size, 2, none⟩ = some (.int .i64 b) ∧ Below w.heap.size w w1 := (fun W h hb => ⟨keep_cell (hb) h.1, keep_cell (hb) h.2.1, keep_cell (hb) h.2.2.1, below_via h.2.2.2 (hb)⟩ : ∀ W : World, (W.cell? ⟨w.heap.size, 0, none⟩ = some (.bool o) ∧ W.cell? ⟨w.heap.size, 1, none⟩ = some (.int .i64 a) ∧ W.cell? ⟨w.heap.size, 2, none⟩ = some (.int .i64 b) ∧ Below w.heap.size w W) → Below W.heap.size W w1 → (w1.cell? ⟨w.heap.size, 0, none⟩ = some (.bool o) ∧ w1.cell? ⟨w.heap.size, 1, none⟩ = some (.int .i64 a) ∧ w1.cell? ⟨w.heap.size, 2, none⟩ = some (.int .i64 b) ∧ Below w.heap.size w w1)) _ (by first | (with_reducible assumption) | (exact hS) | (exact ⟨hS.1, hS.2.1, hS.2.2.1, (by go_grown)⟩) | (exact ⟨(by first | (with_reducible assumption) | (simp [go_sem]; done) | ((simp only [go_sem]); (with_reducible assumption)) | ((refine keep_cell ?_ (by with_reducible assumption)); go_grown; done) | (simp [go_sem, *]; done)), (by first | (with_reducible assumption) | (simp [go_sem]; done) | ((simp only [go_sem]); (with_reducible assumption)) | ((refine keep_cell ?_ (by with_reducible assumption)); go_grown; done) | (simp [go_sem, *]; done)), (by first | (with_reducible assumption) | (simp [go_sem]; done) | ((simp only [go_sem]); (with_reducible assumption)) | ((refine keep_cell ?_ (by with_reducible assumption)); go_grown; done) | (simp [go_sem, *]; done)), (by go_grown)⟩)) hb; (try clear hS); have hS := hT; clear hT; have hB := hS.2.2.2; have hzw : w.heap.size ≤ w1.heap.size := hB.size; have hz1 : w.heap.size < w1.heap.size := World.block_lt_of_cell? w1 _ (hS.1); clear hb))
      go_returns
      exact ⟨ret_eq (by simp), by go_grown⟩
  have h2b : (o == od) = false := beq_eq_false_iff_ne.2 h2
  rcases h3 : vR o a b with _ | _
  all_goals
    go_enter Try.func99, Try.ntmps99
    go_wp2_with (first | (go_at_call 98; refine (l1In_c _ _ _ _).mono ?_; rintro e w1 ⟨rfl, rfl⟩) | (go_at_call 120; refine (l7Report_c _ _ _ _).mono ?_; rintro e w1 ⟨rfl, hb⟩; have hT : w1.cell? ⟨w.heap.size, 0, none⟩ = some (.bool o) ∧ w1.cell? ⟨w.heap.size, 1, none⟩ = some (.int .i64 a) ∧ w1.cell? ⟨w.heap.size, 2, none⟩ = some (.int .i64 b) ∧ Below w.heap.size w w1 := (fun W h hb => ⟨keep_cell (hb) h.1, keep_cell (hb) h.2.1, keep_cell (hb) h.2.2.1, below_via h.2.2.2 (hb)⟩ : ∀ W : World, (W.cell? ⟨w.heap.size, 0, none⟩ = some (.bool o) ∧ W.cell? ⟨w.heap.size, 1, none⟩ = some (.int .i64 a) ∧ W.cell? ⟨w.heap.size, 2, none⟩ = some (.int .i64 b) ∧ Below w.heap.size w W) → Below W.heap.size W w1 → (w1.cell? ⟨w.heap.size, 0, none⟩ = some (.bool o) ∧ w1.cell? ⟨w.heap.size, 1, none⟩ = some (.int .i64 a) ∧ w1.cell? ⟨w.heap.size, 2, none⟩ = some (.int .i64 b) ∧ Below w.heap.size w w1)) _ (by first | (with_reducible assumption) | (exact hS) | (exact ⟨hS.1, hS.2.1, hS.2.2.1, (by go_grown)⟩) | (exact ⟨(by first | (with_reducible assumption) | (simp [go_sem]; done) | ((simp only [go_sem]); (with_reducible assumption)) | ((refine keep_cell ?_ (by with_reducible assumption)); go_grown; done) | (simp [go_sem, *]; done)), (by first | (with_reducible assumption) | (simp [go_sem]; done) | ((simp only [go_sem]); (with_reducible assumption)) | ((refine keep_cell ?_ (by with_reducible assumption)); go_grown; done) | (simp [go_sem, *]; done)), (by first | (with_reducible assumption) | (simp [go_sem]; done) | ((simp only [go_sem]); (with_reducible assumption)) | ((refine keep_cell ?_ (by with_reducible assumption)); go_grown; done) | (simp [go_sem, *]; done)), (by go_grown)⟩)) hb; (try clear hS); have hS := hT; clear hT; have hB := hS.2.2.2; have hzw : w.heap.size ≤ w1.heap.size := hB.size; have hz1 : w.heap.size < w1.heap.size := World.block_lt_of_cell? w1 _ (hS.1); clear hb))
    go_returns
    exact ⟨ret_eq (by simp [h2]), by go_grown⟩
end Go.Proofs.Ytbeojfhakmbacaa
namespace Go.Proofs.Ytbeojfhakmbacaa
open Go.RowKit
end Go.Proofs.Ytbeojfhakmbacaa
