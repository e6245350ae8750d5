/- A statement whose order Go leaves open, walked once, in the order of the text: each operation yields the same in every world that meets S, and S holds behind it. -/
import Derived.Orders
import Derived.RegionTactic
import Derived.BigCall
namespace Go.Proofs.Ytbeojfhakmbacaa
open Go

section
variable {P : Program} {S : World → Prop}

/-- In every world that meets S the operation yields v, and S holds behind it. -/
def Lands (P : Program) (S : World → Prop) (x : Sem Next) (v : Value) : Prop :=
  ∀ w, S w → match x.run P w with
    | .ok (.value u) w' => u = v ∧ S w'
    | .ok (.enter f args) w' => Calls P f args w' fun e w'' => e = .returned v ∧ S w''
    | .ok .skip w' => v = undef ∧ S w'
    | _ => False

theorem Lands.wp {o : Oper} {a : Act} {v : Value} (h : Lands P S (execOp a.eval o) v) {w : World} (hS : S w) {K : Act → World → Prop} {Q : Exit → Act → World → Prop}
    (hK : ∀ w', S w' → K (a.put o.dst v) w') : o.wp P a w K Q := by
  have h1 := h w hS
  unfold Oper.wp
  generalize (execOp a.eval o).run P w = r at h1
  cases r with
  | ok n w' =>
    cases n <;> simp only at h1 <;> simp only [Oper.upon]
    case value u => obtain ⟨rfl, h2⟩ := h1; exact hK _ h2
    case skip => obtain ⟨rfl, h2⟩ := h1; exact hK _ h2
    case enter f args => exact h1.mono fun e w'' ⟨he, h2⟩ => by subst he; exact hK _ h2
  | halt x w' => exact h1.elim

def LandsAt (P : Program) (ops : Array Oper) (S : World → Prop) (o : Oper) (v : Value) (a : Act) : Prop :=
  (Region.wanted o (yielded ops a.tmps) = true ∧ Lands P S (execOp a.eval o) v) ∨ (Region.wanted o (yielded ops a.tmps) = false ∧ v = undef)

/-- The operations one after the other, in the order of the text. -/
def wpDet (P : Program) (ops : Array Oper) (S : World → Prop) (R : Act → Prop) : List Oper → Act → Prop
  | [], a => R a
  | o :: rest, a => ∃ v, LandsAt P ops S o v a ∧ wpDet P ops S R rest (a.put o.dst v)

def stateAt (a : Act) (ps : List (Oper × Value)) (k : Nat) : Act := (ps.take k).foldl (fun a p => a.put p.1.dst p.2) a

theorem stateAt_succ {a : Act} {ps : List (Oper × Value)} {k : Nat} {o : Oper} {v : Value} (h : ps[k]? = some (o, v)) : stateAt a ps (k + 1) = (stateAt a ps k).put o.dst v := by
  simp [stateAt, List.take_add_one, h, List.foldl_append]

theorem wpDet_pairs {ops : Array Oper} {R : Act → Prop} : ∀ (l : List Oper) (a : Act), wpDet P ops S R l a →
    ∃ ps : List (Oper × Value), ps.map (·.1) = l ∧ (∀ k o v, ps[k]? = some (o, v) → LandsAt P ops S o v (stateAt a ps k)) ∧ R (stateAt a ps ps.length)
  | [], a, h => ⟨[], rfl, by simp, by simpa [stateAt, wpDet] using h⟩
  | o :: rest, a, ⟨v, hv, h⟩ => by
    obtain ⟨ps, h1, h2, h3⟩ := wpDet_pairs rest _ h
    refine ⟨(o, v) :: ps, by simp [h1], fun k o' v' hk => ?_, by simpa [stateAt] using h3⟩
    cases k with
    | zero => simp at hk; obtain ⟨rfl, rfl⟩ := hk; simpa [stateAt] using hv
    | succ k => simpa [stateAt] using h2 k o' v' (by simpa using hk)

/-- Every two operations that share a temporary are held in the order of the text, by an edge of their own. -/
def seqOk (ops : Array Oper) : Bool :=
  (List.range ops.size).all fun j => match ops[j]? with
    | none => true
    | some oj => (match oj.op with | .select .. => false | _ => true) && oj.after.toList.all (fun e => !Region.binds .any e || decide (e.on < j)) &&
      (List.range j).all fun i => match ops[i]? with
        | none => true
        | some oi => oi.apart ops oj || oj.after.toList.any (fun e => Region.binds .any e && e.on == i)

theorem seqOk_spec {ops : Array Oper} (h : seqOk ops = true) {j : Nat} {oj : Oper} (hj : ops[j]? = some oj) :
    (∀ cs b, oj.op ≠ .select cs b) ∧ (∀ e ∈ oj.after, Region.binds .any e = true → e.on < j) ∧
    ∀ i oi, i < j → ops[i]? = some oi → oi.apart ops oj = true ∨ ∃ e ∈ oj.after, Region.binds .any e = true ∧ e.on = i := by
  have hlt : j < ops.size := (Array.getElem?_eq_some_iff.1 hj).1
  have h1 := List.all_eq_true.1 h j (by simpa using hlt)
  simp only [hj, Bool.and_eq_true] at h1
  obtain ⟨⟨h2, h3⟩, h4⟩ := h1
  refine ⟨fun cs b e => by rw [e] at h2; simp at h2, fun e he hb => ?_, fun i oi hi hoi => ?_⟩
  · have := List.all_eq_true.1 h3 e (by simpa using he)
    simpa [hb] using this
  · have := List.all_eq_true.1 h4 i (by simpa using hi)
    simp only [hoi, Bool.or_eq_true] at this
    refine this.imp id fun h5 => ?_
    obtain ⟨e, he, hb⟩ := List.any_eq_true.1 h5
    simp only [Bool.and_eq_true, beq_iff_eq] at hb
    exact ⟨e, by simpa using he, hb.1, hb.2⟩

/-- What is known of the frame when the operations that are 'listed' have come up: a temporary holds what it holds in the text's own order behind just those of its writers. -/
structure Inv (ops : Array Oper) (A : Nat → Act) (listed : Array Bool) (a : Act) : Prop where
  size : listed.size = ops.size
  down : ∀ (j : Nat) oj, ops[j]? = some oj → listed.getD j true = true → ∀ e ∈ oj.after, Region.binds .any e = true → listed.getD e.on false = true
  defers : a.defers = (A 0).defers
  tsize : a.tmps.size = (A 0).tmps.size
  slots : ∀ (t k : Nat), (∀ (j : Nat) oj, ops[j]? = some oj → oj.dst = some t → (listed.getD j true = true ↔ j < k)) → a.tmps[t]? = (A k).tmps[t]?

theorem Act.eval_of_slots {a b : Act} {x : Operand} (h : ∀ t, x = .tmp t → a.tmps[t]? = b.tmps[t]?) : a.eval x = b.eval x := by
  cases x with
  | tmp t => simp [Act.eval, h t rfl]
  | _ => rfl

theorem same_exec {ops : Array Oper} {o : Oper} {a b : Act} (hs : ∀ cs d, o.op ≠ .select cs d) (h : ∀ t ∈ o.looksAt ops, a.tmps[t]? = b.tmps[t]?) :
    execOp a.eval o = execOp b.eval o ∧ Region.wanted o (yielded ops a.tmps) = Region.wanted o (yielded ops b.tmps) := by
  constructor
  · refine execOp_congr o hs fun x hx => Act.eval_of_slots fun t ht => h t ?_
    subst ht
    exact List.mem_append_left _ (List.mem_filterMap.2 ⟨.tmp t, by simpa using hx, rfl⟩)
  · unfold Region.wanted
    cases hg : o.guard with
    | none => rfl
    | some gw =>
      obtain ⟨g, want⟩ := gw
      have hy : yielded ops a.tmps g = yielded ops b.tmps g := by
        unfold yielded
        cases ht : (ops[g]?).bind (·.dst) with
        | none => rfl
        | some t =>
          have h1 := h t (List.mem_append_right _ (by simp [hg, ht]))
          simp [h1]
      simp only [hy]

theorem put_tmps_ne {a : Act} {d : Option Tmp} {v : Value} {t : Nat} (h : d ≠ some t) : (a.put d v).tmps[t]? = a.tmps[t]? := by
  cases d with
  | none => rfl
  | some d => simp only [Act.put]; rw [Array.getElem?_setIfInBounds_ne (fun e => h (by rw [e]))]
theorem put_size {a : Act} {d : Option Tmp} {v : Value} : (a.put d v).tmps.size = a.tmps.size := by cases d <;> simp [Act.put]
theorem put_defers {a : Act} {d : Option Tmp} {v : Value} : (a.put d v).defers = a.defers := by cases d <;> rfl
theorem put_tmps_eq {a b : Act} {t : Nat} {v : Value} (h : a.tmps.size = b.tmps.size) : (a.put (some t) v).tmps[t]? = (b.put (some t) v).tmps[t]? := by
  simp only [Act.put, Array.getElem?_setIfInBounds, if_true, h]

theorem no_writer {A : Nat → Act} {ps : List (Oper × Value)} (hA : ∀ (k : Nat) (o : Oper) (v : Value), ps[k]? = some (o, v) → A (k + 1) = (A k).put o.dst v) (hN : ∀ k, ps.length ≤ k → A (k + 1) = A k) {t : Nat} :
    ∀ (d i : Nat), (∀ j o v, i ≤ j → j < i + d → ps[j]? = some (o, v) → o.dst ≠ some t) → (A (i + d)).tmps[t]? = (A i).tmps[t]?
  | 0, i, _ => rfl
  | d + 1, i, h => by
    have h1 := no_writer hA hN d i (fun j o v a b => h j o v a (by omega))
    rw [← h1]
    show (A (i + d + 1)).tmps[t]? = _
    cases hp : ps[i + d]? with
    | none => rw [hN _ (by simpa using hp)]
    | some p =>
      obtain ⟨o, v⟩ := p
      rw [hA _ o v hp, put_tmps_ne (h _ o v (by omega) (by omega) hp)]

theorem ready_spec {ops : Array Oper} {listed : Array Bool} {i : Nat} (h : i ∈ Region.ready .any ops listed) :
    listed.getD i true = false ∧ ∃ o, ops[i]? = some o ∧ ∀ e ∈ o.after, Region.binds .any e = true → listed.getD e.on false = true := by
  unfold Region.ready at h
  simp only [List.mem_filter, List.mem_range, Bool.and_eq_true, Bool.not_eq_true'] at h
  obtain ⟨hlt, h1, h2⟩ := h
  refine ⟨h1, ops[i], Array.getElem?_eq_getElem hlt, fun e he hb => ?_⟩
  rw [Array.getElem?_eq_getElem hlt] at h2
  simp only [Option.map_some, Option.getD_some, Array.all_eq_true_iff_forall_mem, Bool.or_eq_true, Bool.not_eq_true'] at h2
  rcases h2 e he with h3 | h3
  · rw [hb] at h3; cases h3
  · exact h3

theorem all_listed {ops : Array Oper} {listed : Array Bool} (hs : listed.size = ops.size) (hok : seqOk ops = true) (h : Region.ready .any ops listed = []) : ∀ j, listed.getD j true = true := by
  intro j
  induction j using Nat.strongRecOn with
  | _ j ih =>
    rcases Nat.lt_or_ge j listed.size with hlt | hge
    · cases hl : listed.getD j true with
      | true => rfl
      | false =>
        exfalso
        have hlo : j < ops.size := by omega
        obtain ⟨_, he, _⟩ := seqOk_spec hok (Array.getElem?_eq_getElem hlo)
        have hm : j ∈ Region.ready .any ops listed := by
          unfold Region.ready
          simp only [List.mem_filter, List.mem_range, Bool.and_eq_true, Bool.not_eq_true']
          refine ⟨hlo, hl, ?_⟩
          rw [Array.getElem?_eq_getElem hlo]
          simp only [Option.map_some, Option.getD_some, Array.all_eq_true_iff_forall_mem, Bool.or_eq_true, Bool.not_eq_true']
          intro e hem
          cases hb : Region.binds .any e with
          | false => exact .inl rfl
          | true =>
            have h1 := he e hem hb
            have h2 := ih e.on h1
            have h3 : e.on < listed.size := by omega
            simp only [Array.getD, h3, dif_pos] at h2 ⊢
            exact .inr h2
        rw [h] at hm
        cases hm
    · simp [Array.getD, Nat.not_lt.2 hge]

theorem getD_set {l : Array Bool} {i j : Nat} {d : Bool} (hi : i < l.size) : (l.setIfInBounds i true).getD j d = if j = i then true else l.getD j d := by
  simp only [Array.getD_eq_getD_getElem?, Array.getElem?_setIfInBounds]
  by_cases h : i = j
  · subst h; simp [hi]
  · simp [h, Ne.symm h]

theorem count_set {l : Array Bool} {i n : Nat} (hi : l.getD i true = false) (h : l.toList.count false ≤ n + 1) : (l.setIfInBounds i true).toList.count false ≤ n := by
  have hlt : i < l.size := by
    rcases Nat.lt_or_ge i l.size with h1 | h1
    · exact h1
    · simp [Array.getD, Nat.not_lt.2 h1] at hi
  have hv : l[i] = false := by simpa [Array.getD, hlt] using hi
  have hv2 : l.toList[i]'(by simpa using hlt) = false := by simpa using hv
  rw [Array.toList_setIfInBounds, List.count_set (by simpa using hlt), hv2]
  have e1 : (if (false == false) = true then 1 else 0) = 1 := rfl
  have e2 : (if (true == false) = true then 1 else 0) = 0 := rfl
  rw [e1, e2]
  omega

theorem inv_step {ops : Array Oper} {A : Nat → Act} {ps : List (Oper × Value)} (hok : seqOk ops = true) (hps : ∀ (j : Nat) (o : Oper), ops[j]? = some o ↔ ∃ v : Value, ps[j]? = some (o, v))
    (hA : ∀ (k : Nat) (o : Oper) (v : Value), ps[k]? = some (o, v) → A (k + 1) = (A k).put o.dst v) (hN : ∀ k, ps.length ≤ k → A (k + 1) = A k)
    {listed : Array Bool} {a : Act} (I : Inv ops A listed a) {i : Nat} {o : Oper} {v : Value} (hr : i ∈ Region.ready .any ops listed) (hp : ps[i]? = some (o, v)) :
    Inv ops A (listed.setIfInBounds i true) (a.put o.dst v) := by
  obtain ⟨hu, o', ho, he⟩ := ready_spec hr
  have hlt : i < listed.size := by rw [I.size]; exact (Array.getElem?_eq_some_iff.1 ho).1
  obtain rfl : o = o' := by
    have := (hps i o).2 ⟨v, hp⟩
    rw [ho] at this
    exact (Option.some.inj this).symm
  have hs0 : ∀ k, (A k).tmps.size = (A 0).tmps.size := by
    intro k
    induction k with
    | zero => rfl
    | succ k ih =>
      cases hk : ps[k]? with
      | none => rw [hN k (by simpa using hk), ih]
      | some p => rw [hA k p.1 p.2 hk, put_size, ih]
  refine ⟨by simpa using I.size, fun j oj hj hl e hem hb => ?_, by rw [put_defers]; exact I.defers, by rw [put_size]; exact I.tsize, fun t k hk => ?_⟩
  · rw [getD_set hlt] at hl ⊢
    split
    · rfl
    · by_cases hji : j = i
      · subst hji
        rw [ho] at hj
        cases hj
        exact he e hem hb
      · rw [if_neg hji] at hl
        exact I.down j oj hj hl e hem hb
  · by_cases hd : o.dst = some t
    · have hik : i < k := (hk i o ho hd).1 (by rw [getD_set hlt, if_pos rfl])
      have hno := no_writer hA hN (t := t) (k - (i + 1)) (i + 1) (fun j oj vj h1 h2 hpj hdj => by
        have hoj := (hps j oj).2 ⟨vj, hpj⟩
        have hlj := (hk j oj hoj hdj).2 (by omega)
        rw [getD_set hlt, if_neg (by omega)] at hlj
        obtain ⟨_, _, h3⟩ := seqOk_spec hok hoj
        rcases h3 i o (by omega) ho with h4 | ⟨e, hem, hb, heq⟩
        · have := (Oper.apart_spec h4).2.1 t hd
          exact this hdj
        · have := I.down j oj hoj hlj e hem hb
          rw [heq] at this
          simp only [Array.getD, hlt, dif_pos] at this hu
          rw [this] at hu
          cases hu)
      rw [show i + 1 + (k - (i + 1)) = k from by omega] at hno
      rw [hno, hA i o v hp, hd]
      exact put_tmps_eq (I.tsize.trans (hs0 i).symm)
    · rw [put_tmps_ne hd]
      refine I.slots t k fun j oj hoj hdj => ?_
      rw [← hk j oj hoj hdj, getD_set hlt]
      by_cases hji : j = i
      · subst hji
        rw [ho] at hoj
        cases hoj
        exact absurd hdj hd
      · rw [if_neg hji]

theorem lands_at {ops : Array Oper} {A : Nat → Act} (hok : seqOk ops = true) {listed : Array Bool} {a : Act} (I : Inv ops A listed a) {i : Nat} {o : Oper} {v : Value}
    (hr : i ∈ Region.ready .any ops listed) (ho : ops[i]? = some o) (h : LandsAt P ops S o v (A i)) : LandsAt P ops S o v a := by
  obtain ⟨hu, o', ho', he⟩ := ready_spec hr
  rw [ho] at ho'
  cases ho'
  obtain ⟨hs, _, h3⟩ := seqOk_spec hok ho
  have hlt : i < listed.size := by rw [I.size]; exact (Array.getElem?_eq_some_iff.1 ho).1
  obtain ⟨e1, e2⟩ := same_exec (ops := ops) (a := a) (b := A i) hs (fun t ht => I.slots t i fun j oj hoj hdj => by
    constructor
    · intro hl
      rcases Nat.lt_trichotomy j i with h4 | h4 | h4
      · exact h4
      · subst h4; rw [hu] at hl; cases hl
      · exfalso
        obtain ⟨_, _, h5⟩ := seqOk_spec hok hoj
        rcases h5 i o h4 ho with h6 | ⟨e, hem, hb, heq⟩
        · exact (Oper.apart_spec h6).2.2 t hdj ht
        · have := I.down j oj hoj hl e hem hb
          rw [heq] at this
          simp only [Array.getD, hlt, dif_pos] at this hu
          rw [this] at hu
          cases hu
    · intro hji
      rcases h3 j oj hji hoj with h6 | ⟨e, hem, hb, heq⟩
      · exact absurd ht ((Oper.apart_spec h6).1 t hdj)
      · have := he e hem hb
        rw [heq] at this
        have hj : j < listed.size := by omega
        simp only [Array.getD, hj, dif_pos] at this ⊢
        exact this)
  unfold LandsAt at *
  rw [e1, e2]
  exact h

theorem det_any {ops : Array Oper} {A : Nat → Act} {ps : List (Oper × Value)} {Q : Exit → Act → World → Prop} (hok : seqOk ops = true) (hps : ∀ (j : Nat) (o : Oper), ops[j]? = some o ↔ ∃ v : Value, ps[j]? = some (o, v))
    (hA : ∀ (k : Nat) (o : Oper) (v : Value), ps[k]? = some (o, v) → A (k + 1) = (A k).put o.dst v) (hN : ∀ k, ps.length ≤ k → A (k + 1) = A k)
    (hL : ∀ (k : Nat) (o : Oper) (v : Value), ps[k]? = some (o, v) → LandsAt P ops S o v (A k)) (hQ : ∀ w, S w → Q .normal (A ps.length) w) (hlen : ps.length = ops.size) :
    ∀ (fuel : Nat) (listed : Array Bool) (a : Act) (w : World), Inv ops A listed a → S w → listed.toList.count false ≤ fuel → wpAny P .any ops Q fuel listed a w := by
  have hfin : ∀ (listed : Array Bool) (a : Act) (w : World), Inv ops A listed a → S w → (∀ j, listed.getD j true = true) → Q .normal a w := by
    intro listed a w I hS hall
    have : a = A ps.length := by
      have hs0 : ∀ k, (A k).tmps.size = (A 0).tmps.size ∧ (A k).defers = (A 0).defers := by
        intro k
        induction k with
        | zero => exact ⟨rfl, rfl⟩
        | succ k ih =>
          cases hk : ps[k]? with
          | none => rw [hN k (by simpa using hk)]; exact ih
          | some p => rw [hA k p.1 p.2 hk, put_size, put_defers]; exact ih
      obtain ⟨ta, da⟩ := a
      have e1 : ta = (A ps.length).tmps := Array.ext_getElem? fun t => I.slots t ps.length fun j oj hoj _ => by
        simp only [hall j, true_iff]
        rw [hlen]
        exact (Array.getElem?_eq_some_iff.1 hoj).1
      have e2 : da = (A ps.length).defers := I.defers.trans (hs0 _).2.symm
      rw [e1, e2]
    rw [this]
    exact hQ w hS
  intro fuel
  induction fuel with
  | zero =>
    intro listed a w I hS hc
    have hall : ∀ j, listed.getD j true = true := by
      intro j
      rcases Nat.lt_or_ge j listed.size with hlt | hge
      · cases hl : listed.getD j true with
        | true => rfl
        | false =>
          have hv : listed[j] = false := by simpa [Array.getD, hlt] using hl
          have hm : false ∈ listed.toList := by
            rw [← hv]
            exact Array.mem_toList_iff.2 (Array.getElem_mem hlt)
          have := List.count_pos_iff.2 hm
          omega
      · simp [Array.getD, Nat.not_lt.2 hge]
    refine ⟨?_, hfin listed a w I hS hall⟩
    rcases hr : Region.ready .any ops listed with _ | ⟨i, r⟩
    · rfl
    · have := (ready_spec (ops := ops) (listed := listed) (i := i) (by rw [hr]; simp)).1
      rw [hall] at this
      cases this
  | succ fuel ih =>
    intro listed a w I hS hc
    refine ⟨fun hr => hfin listed a w I hS (all_listed I.size hok hr), fun i hi => ?_⟩
    obtain ⟨hu, o, ho, he⟩ := ready_spec hi
    obtain ⟨v, hp⟩ := (hps i o).1 ho
    have hI := inv_step hok hps hA hN I hi hp
    have hl := lands_at hok I hi ho (hL i o v hp)
    have hc' := count_set hu hc
    unfold wpOp
    simp only [ho]
    rcases hl with ⟨hw, hl⟩ | ⟨hw, rfl⟩
    · rw [if_pos hw]
      exact .inl (hl.wp hS fun w' hS' => ih _ _ _ hI hS' hc')
    · rw [if_neg (by rw [hw]; simp)]
      exact ih _ _ _ hI hS hc'

/-- **A region that draws its order, walked in the order of the text.** -/
theorem wp_region_det {id : Nat} {l : List Oper} {a : Act} {w : World} {Q : Exit → Act → World → Prop} (S : World → Prop) (hm : P.follows .mixedOrders = true) (hok : seqOk l.toArray = true) (hS : S w.drew)
    (h : wpDet P l.toArray S (fun a' => ∀ w', S w' → Q .normal a' w') l a) : (Code.region id l.toArray true).wp P Q a w := by
  refine wp_region_any hm ?_
  obtain ⟨ps, h1, h2, h3⟩ := wpDet_pairs l a h
  have hlen : ps.length = l.toArray.size := by rw [← h1]; simp
  refine det_any (S := S) (A := stateAt a ps) (ps := ps) hok (fun j o => ?_) (fun k o v hk => stateAt_succ hk) (fun k hk => ?_) h2 h3 hlen l.toArray.size _ a _ ?_ hS ?_
  · rw [← h1]
    simp only [List.getElem?_toArray, List.getElem?_map]
    cases hp : ps[j]? with
    | none => simp
    | some p =>
      obtain ⟨o', v'⟩ := p
      simp only [Option.map_some, Option.some.injEq, Prod.mk.injEq]
      exact ⟨fun e => ⟨v', e, rfl⟩, fun ⟨_, e, _⟩ => e⟩
  · simp [stateAt, List.take_of_length_le hk, List.take_of_length_le (Nat.le_succ_of_le hk)]
  · refine ⟨by simp, fun j oj hj hl => ?_, by simp [stateAt], by simp [stateAt], fun t k hk => ?_⟩
    · have hlt : j < l.toArray.size := (Array.getElem?_eq_some_iff.1 hj).1
      have hlt' : j < l.length := by simpa using hlt
      simp [Array.getD, hlt'] at hl
    · have := no_writer (A := stateAt a ps) (ps := ps) (t := t) (fun k o v hk => stateAt_succ hk) (fun k hk => by simp [stateAt, List.take_of_length_le hk, List.take_of_length_le (Nat.le_succ_of_le hk)]) k 0 (fun j o v _ hjk hpj hd => by
        have hoj : l.toArray[j]? = some o := by rw [← h1]; simp [hpj]
        have hlt : j < l.toArray.size := (Array.getElem?_eq_some_iff.1 hoj).1
        have hlt' : j < l.length := by simpa using hlt
        have := (hk j o hoj hd).2 (by omega)
        simp [Array.getD, hlt'] at this)
      rw [Nat.zero_add] at this
      rw [this]
      simp [stateAt]
  · exact Nat.le_trans List.count_le_length (by simp)

/-- What number j waits for, by its edges and theirs. -/
def belowOf (ops : Array Oper) : Nat → Nat → List Nat
  | 0, _ => []
  | n + 1, j => match ops[j]? with
    | none => []
    | some o => (o.after.toList.filter fun e => Region.binds .any e).flatMap fun e => e.on :: belowOf ops n e.on
/-- From number m on every operation waits for all ahead of it. -/
def tailOk (ops : Array Oper) (m : Nat) : Bool :=
  (List.range ops.size).all fun j => decide (j < m) || (List.range j).all fun i => (belowOf ops ops.size j).contains i

theorem tailOk_spec {ops : Array Oper} {m : Nat} (h : tailOk ops m = true) {j : Nat} (hlt : j < ops.size) (hm : m ≤ j) {i : Nat} (hi : i < j) : i ∈ belowOf ops ops.size j := by
  have h1 := List.all_eq_true.1 h j (by simpa using hlt)
  simp only [Bool.or_eq_true, decide_eq_true_eq] at h1
  rcases h1 with h1 | h1
  · omega
  · simpa using List.all_eq_true.1 h1 i (by simpa using hi)

theorem below_listed {ops : Array Oper} {listed : Array Bool} (hdn : ∀ (j : Nat) oj, ops[j]? = some oj → listed.getD j true = true → ∀ e ∈ oj.after, Region.binds .any e = true → listed.getD e.on false = true)
    (hs : listed.size = ops.size) : ∀ (n j : Nat), (∀ oj, ops[j]? = some oj → ∀ e ∈ oj.after, Region.binds .any e = true → listed.getD e.on false = true) → ∀ i ∈ belowOf ops n j, listed.getD i false = true
  | 0, _, _, i, hi => by simp [belowOf] at hi
  | n + 1, j, hj, i, hi => by
    unfold belowOf at hi
    cases ho : ops[j]? with
    | none => rw [ho] at hi; simp at hi
    | some o =>
      rw [ho] at hi
      simp only [List.mem_flatMap, List.mem_filter, List.mem_cons] at hi
      obtain ⟨e, ⟨he, hb⟩, hi⟩ := hi
      have h1 := hj o ho e (by simpa using he) hb
      rcases hi with rfl | hi
      · exact h1
      · refine below_listed hdn hs n e.on (fun oj hoj => hdn e.on oj hoj ?_) i hi
        have hlt : e.on < ops.size := (Array.getElem?_eq_some_iff.1 hoj).1
        have hlt2 : e.on < listed.size := by omega
        simp only [Array.getD, hlt2, dif_pos] at h1 ⊢
        exact h1

theorem getD_both {listed : Array Bool} {j : Nat} (h : j < listed.size) : listed.getD j false = listed.getD j true := by simp [Array.getD, h]

theorem tail_any {ops : Array Oper} {Q : Exit → Act → World → Prop} {m : Nat} (hok : seqOk ops = true) (ht : tailOk ops m = true) :
    ∀ (d fuel k : Nat) (listed : Array Bool) (a : Act) (w : World), k + d = ops.size → d ≤ fuel → m ≤ k → listed.size = ops.size →
      (∀ j, j < ops.size → (listed.getD j true = true ↔ j < k)) → wpList P ops Q (ops.toList.drop k) a w → wpAny P .any ops Q fuel listed a w := by
  have key : ∀ (k i : Nat) (listed : Array Bool), m ≤ k → listed.size = ops.size → (∀ j, j < ops.size → (listed.getD j true = true ↔ j < k)) → i ∈ Region.ready .any ops listed → i = k := by
    intro k i listed hm hs hl hi
    obtain ⟨hu, o, ho, he⟩ := ready_spec hi
    have hlt : i < ops.size := (Array.getElem?_eq_some_iff.1 ho).1
    have hki : ¬ i < k := fun h => by rw [(hl i hlt).2 h] at hu; cases hu
    rcases Nat.lt_or_ge k i with h | h
    · have h1 := below_listed (ops := ops) (listed := listed) (fun j oj hj hlj e hem hb => by
        have hjs : j < ops.size := (Array.getElem?_eq_some_iff.1 hj).1
        have hjk := (hl j hjs).1 hlj
        obtain ⟨_, h5, _⟩ := seqOk_spec hok hj
        have h6 := h5 e hem hb
        rw [getD_both (by omega)]
        exact (hl e.on (by omega)).2 (by omega)) hs ops.size i (fun oj hoj => by rw [ho] at hoj; cases hoj; exact he) k (tailOk_spec ht hlt (by omega) h)
      rw [getD_both (by omega)] at h1
      have := (hl k (by omega)).1 h1
      omega
    · omega
  have fin : ∀ (k : Nat) (listed : Array Bool) (a : Act) (w : World), k ≤ ops.size → listed.size = ops.size → (∀ j, j < ops.size → (listed.getD j true = true ↔ j < k)) →
      wpList P ops Q (ops.toList.drop k) a w → Region.ready .any ops listed = [] → Q .normal a w := by
    intro k listed a w hk hs hl hw hr
    have hall := all_listed hs hok hr
    have : k = ops.size := by
      rcases Nat.lt_or_ge k ops.size with h | h
      · have := (hl k h).1 (hall k)
        omega
      · omega
    subst this
    rw [List.drop_of_length_le (by simp)] at hw
    exact hw
  intro d
  induction d with
  | zero =>
    intro fuel k listed a w hk hf hm hs hl hw
    have hr : Region.ready .any ops listed = [] := by
      rcases hr : Region.ready .any ops listed with _ | ⟨i, r⟩
      · rfl
      · have h1 := key k i listed hm hs hl (by rw [hr]; simp)
        obtain ⟨_, o, ho, _⟩ := ready_spec (ops := ops) (listed := listed) (i := i) (by rw [hr]; simp)
        have := (Array.getElem?_eq_some_iff.1 ho).1
        omega
    have hq := fin k listed a w (by omega) hs hl hw hr
    cases fuel with
    | zero => exact ⟨hr, hq⟩
    | succ f => exact ⟨fun _ => hq, fun i hi => by rw [hr] at hi; cases hi⟩
  | succ d ih =>
    intro fuel k listed a w hk hf hm hs hl hw
    cases fuel with
    | zero => omega
    | succ f =>
      refine ⟨fun hr => fin k listed a w (by omega) hs hl hw hr, fun i hi => ?_⟩
      obtain rfl := key k i listed hm hs hl hi
      have hlt : i < ops.size := by omega
      have hlt' : i < ops.toList.length := by simpa using hlt
      rw [List.drop_eq_getElem_cons hlt'] at hw
      have hnext : ∀ (a' : Act) (w' : World), wpList P ops Q (ops.toList.drop (i + 1)) a' w' → wpAny P .any ops Q f (listed.setIfInBounds i true) a' w' := fun a' w' h =>
        ih f (i + 1) _ a' w' (by omega) (by omega) (by omega) (by simpa using hs) (fun j hj => by
          rw [getD_set (by omega)]
          by_cases hji : j = i
          · subst hji; simp
          · rw [if_neg hji, hl j hj]; omega) h
      unfold wpOp
      rw [Array.getElem?_eq_getElem hlt]
      unfold wpList at hw
      rw [Array.getElem_toList] at hw
      simp only []
      split
      · rename_i h1
        rw [if_pos h1] at hw
        exact hw.imp (Oper.wp_mono hnext) id
      · rename_i h1
        rw [if_neg h1] at hw
        exact hnext _ _ hw

theorem tail_all {ops : Array Oper} {A : Nat → Act} {ps : List (Oper × Value)} {Q : Exit → Act → World → Prop} {m : Nat} (hok : seqOk ops = true) (ht : tailOk ops m = true) (hm : m ≤ ops.size)
    (hps : ∀ (j : Nat) (o : Oper), j < m → (ops[j]? = some o ↔ ∃ v : Value, ps[j]? = some (o, v)))
    (hA : ∀ (k : Nat) (o : Oper) (v : Value), ps[k]? = some (o, v) → A (k + 1) = (A k).put o.dst v) (hN : ∀ k, ps.length ≤ k → A (k + 1) = A k)
    (hL : ∀ (k : Nat) (o : Oper) (v : Value), ps[k]? = some (o, v) → LandsAt P ops S o v (A k)) (hQ : ∀ w, S w → wpList P ops Q (ops.toList.drop m) (A m) w) (hlen : ps.length = m) :
    ∀ (fuel : Nat) (listed : Array Bool) (a : Act) (w : World), listed.size = ops.size → (∀ j, m ≤ j → j < ops.size → listed.getD j true = false) →
      (∀ (j : Nat) oj, ops[j]? = some oj → listed.getD j true = true → ∀ e ∈ oj.after, Region.binds .any e = true → listed.getD e.on false = true) →
      a.defers = (A 0).defers → a.tmps.size = (A 0).tmps.size →
      (∀ (t k : Nat), k ≤ m → (∀ (j : Nat) oj, j < m → ops[j]? = some oj → oj.dst = some t → (listed.getD j true = true ↔ j < k)) → a.tmps[t]? = (A k).tmps[t]?) →
      S w → listed.toList.count false ≤ fuel → wpAny P .any ops Q fuel listed a w := by
  have hs0 : ∀ k, (A k).tmps.size = (A 0).tmps.size ∧ (A k).defers = (A 0).defers := by
    intro k
    induction k with
    | zero => exact ⟨rfl, rfl⟩
    | succ k ih =>
      cases hk : ps[k]? with
      | none => rw [hN k (by simpa using hk)]; exact ih
      | some p => rw [hA k p.1 p.2 hk, put_size, put_defers]; exact ih
  have hfin : ∀ (fuel : Nat) (listed : Array Bool) (a : Act) (w : World), listed.size = ops.size → (∀ j, m ≤ j → j < ops.size → listed.getD j true = false) → a.defers = (A 0).defers →
      (∀ (t k : Nat), k ≤ m → (∀ (j : Nat) oj, j < m → ops[j]? = some oj → oj.dst = some t → (listed.getD j true = true ↔ j < k)) → a.tmps[t]? = (A k).tmps[t]?) →
      S w → listed.toList.count false ≤ fuel → (∀ j, j < m → listed.getD j true = true) → wpAny P .any ops Q fuel listed a w := by
    intro fuel listed a w hs hu hd hsl hS hc hall
    have hl : ∀ j, j < ops.size → (listed.getD j true = true ↔ j < m) := fun j hj => by
      refine ⟨fun h => ?_, fun h => hall j h⟩
      rcases Nat.lt_or_ge j m with h1 | h1
      · exact h1
      · rw [hu j h1 hj] at h
        cases h
    have ha : a = A m := by
      obtain ⟨ta, da⟩ := a
      have e1 : ta = (A m).tmps := Array.ext_getElem? fun t => hsl t m (Nat.le_refl _) fun j oj hj hoj _ => by simp [hall j hj, hj]
      have e2 : da = (A m).defers := hd.trans (hs0 _).2.symm
      rw [e1, e2]
    subst ha
    have hcount : ops.size - m ≤ fuel := by
      refine Nat.le_trans ?_ hc
      have h1 : (List.replicate (ops.size - m) false).Sublist listed.toList := by
        have h2 : listed.toList.drop m = List.replicate (ops.size - m) false := by
          refine List.ext_getElem (by simp [hs]) fun n h1 h2 => ?_
          have h3 : m + n < listed.size := by simp at h1; omega
          have := hu (m + n) (by omega) (by omega)
          simp [Array.getD, h3] at this
          simp [this]
        rw [← h2]
        exact List.drop_sublist _ _
      have h4 := h1.count_le false
      simpa using h4
    exact tail_any hok ht (ops.size - m) fuel m listed (A m) w (by omega) hcount (Nat.le_refl _) hs hl (hQ w hS)
  intro fuel
  induction fuel with
  | zero =>
    intro listed a w hs hu hdn hd hts hsl hS hc
    refine hfin 0 listed a w hs hu hd hsl hS hc fun j hj => ?_
    have hlt : j < listed.size := by omega
    cases hl : listed.getD j true with
    | true => rfl
    | false =>
      have hv : listed[j] = false := by simpa [Array.getD, hlt] using hl
      have hm' : false ∈ listed.toList := by
        rw [← hv]
        exact Array.mem_toList_iff.2 (Array.getElem_mem hlt)
      have := List.count_pos_iff.2 hm'
      omega
  | succ fuel ih =>
    intro listed a w hs hu hdn hd hts hsl hS hc
    by_cases hall : ∀ j, j < m → listed.getD j true = true
    · exact hfin (fuel + 1) listed a w hs hu hd hsl hS hc hall
    refine ⟨fun hr => absurd (fun j _ => all_listed hs hok hr j) hall, fun i hi => ?_⟩
    obtain ⟨hui, o, ho, he⟩ := ready_spec hi
    have hlt : i < listed.size := by rw [hs]; exact (Array.getElem?_eq_some_iff.1 ho).1
    have him : i < m := by
      rcases Nat.lt_or_ge i m with h | h
      · exact h
      · refine absurd (fun j hj => ?_) hall
        have h7 := below_listed hdn hs ops.size i (fun oj hoj => by rw [ho] at hoj; cases hoj; exact he) j (tailOk_spec ht (by omega) h (i := j) (by omega))
        rw [getD_both (by omega)] at h7
        exact h7
    obtain ⟨v, hp⟩ := (hps i o him).1 ho
    obtain ⟨hsel, _, h3⟩ := seqOk_spec hok ho
    have hdn' : ∀ (j : Nat) oj, ops[j]? = some oj → (listed.setIfInBounds i true).getD j true = true → ∀ e ∈ oj.after, Region.binds .any e = true → (listed.setIfInBounds i true).getD e.on false = true := by
      intro j oj hj hl e hem hb
      rw [getD_set hlt] at hl ⊢
      split
      · rfl
      · by_cases hji : j = i
        · subst hji
          rw [ho] at hj
          cases hj
          exact he e hem hb
        · rw [if_neg hji] at hl
          exact hdn j oj hj hl e hem hb
    have hnot : ∀ j oj, i < j → ops[j]? = some oj → listed.getD j true = true → oj.dst ≠ none → o.apart ops oj = true := by
      intro j oj hij hoj hl _
      obtain ⟨_, _, h5⟩ := seqOk_spec hok hoj
      rcases h5 i o hij ho with h6 | ⟨e, hem, hb, heq⟩
      · exact h6
      · have := hdn j oj hoj hl e hem hb
        rw [heq, getD_both hlt, hui] at this
        cases this
    have hl : LandsAt P ops S o v a := by
      obtain ⟨e1, e2⟩ := same_exec (ops := ops) (a := a) (b := A i) hsel (fun t htk => hsl t i (by omega) fun j oj hjm hoj hdj => by
        constructor
        · intro hl
          rcases Nat.lt_trichotomy j i with h4 | h4 | h4
          · exact h4
          · subst h4; rw [hui] at hl; cases hl
          · exact absurd htk ((Oper.apart_spec (hnot j oj h4 hoj hl (by rw [hdj]; simp))).2.2 t hdj)
        · intro hji
          rcases h3 j oj hji hoj with h6 | ⟨e, hem, hb, heq⟩
          · exact absurd htk ((Oper.apart_spec h6).1 t hdj)
          · have := he e hem hb
            rw [heq, getD_both (by omega)] at this
            exact this)
      have := hL i o v hp
      unfold LandsAt at *
      rw [e1, e2]
      exact this
    have hsl' : ∀ (t k : Nat), k ≤ m → (∀ (j : Nat) oj, j < m → ops[j]? = some oj → oj.dst = some t → ((listed.setIfInBounds i true).getD j true = true ↔ j < k)) → (a.put o.dst v).tmps[t]? = (A k).tmps[t]? := by
      intro t k hkm hk
      by_cases hdt : o.dst = some t
      · have hik : i < k := (hk i o him ho hdt).1 (by rw [getD_set hlt, if_pos rfl])
        have hno := no_writer hA hN (t := t) (k - (i + 1)) (i + 1) (fun j oj vj h1 h2 hpj hdj => by
          have hoj := (hps j oj (by omega)).2 ⟨vj, hpj⟩
          have hlj := (hk j oj (by omega) hoj hdj).2 (by omega)
          rw [getD_set hlt, if_neg (by omega)] at hlj
          exact (Oper.apart_spec (hnot j oj (by omega) hoj hlj (by rw [hdj]; simp))).2.1 t hdt hdj)
        rw [show i + 1 + (k - (i + 1)) = k from by omega] at hno
        rw [hno, hA i o v hp, hdt]
        exact put_tmps_eq (hts.trans (hs0 i).1.symm)
      · rw [put_tmps_ne hdt]
        refine hsl t k hkm fun j oj hjm hoj hdj => ?_
        rw [← hk j oj hjm hoj hdj, getD_set hlt]
        by_cases hji : j = i
        · subst hji
          rw [ho] at hoj
          cases hoj
          exact absurd hdj hdt
        · rw [if_neg hji]
    have hgo : ∀ w', S w' → wpAny P .any ops Q fuel (listed.setIfInBounds i true) (a.put o.dst v) w' := fun w' hS' =>
      ih _ _ w' (by simpa using hs) (fun j hj hjs => by rw [getD_set hlt, if_neg (by omega)]; exact hu j hj hjs) hdn' (by rw [put_defers]; exact hd) (by rw [put_size]; exact hts) hsl' hS' (count_set hui hc)
    unfold wpOp
    simp only [ho]
    rcases hl with ⟨hw, hl⟩ | ⟨hw, rfl⟩
    · rw [if_pos hw]
      exact .inl (hl.wp hS hgo)
    · rw [if_neg (by rw [hw]; simp)]
      exact hgo w hS

/-- **A region that draws its order but for its end**: the first operations as in wp_region_det, the rest (each waits for all ahead of it) as it stands. -/
theorem wp_region_tail {id : Nat} {a : Act} {w : World} {Q : Exit → Act → World → Prop} (m : Nat) (S : World → Prop) {l : List Oper} (hm : P.follows .mixedOrders = true) (hok : seqOk l.toArray = true)
    (ht : tailOk l.toArray m = true) (hml : m ≤ l.length) (hS : S w.drew)
    (h : wpDet P l.toArray S (fun a' => ∀ w', S w' → wpList P l.toArray Q (l.drop m) a' w') (l.take m) a) : (Code.region id l.toArray true).wp P Q a w := by
  refine wp_region_any hm ?_
  obtain ⟨ps, h1, h2, h3⟩ := wpDet_pairs (l.take m) a h
  have hlen : ps.length = m := by
    have : (ps.map (·.1)).length = (l.take m).length := by rw [h1]
    simpa [Nat.min_eq_left hml] using this
  rw [hlen] at h3
  refine tail_all (S := S) (A := stateAt a ps) (ps := ps) (m := m) hok ht (by simpa using hml) (fun j o hj => ?_) (fun k o v hk => stateAt_succ hk) (fun k hk => ?_) h2 (by simpa using h3) hlen l.toArray.size _ a _ (by simp)
    (fun j _ hj => by
      have hj' : j < l.length := by simpa using hj
      simp [Array.getD, hj'])
    (fun j oj hj hl => ?_) (by simp [stateAt]) (by simp [stateAt]) (fun t k hkm hk => ?_) hS ?_
  · have e : l.toArray[j]? = (l.take m)[j]? := by simp [hj]
    rw [e, ← h1]
    simp only [List.getElem?_map]
    cases hp : ps[j]? with
    | none => simp
    | some p =>
      obtain ⟨o', v'⟩ := p
      simp only [Option.map_some, Option.some.injEq, Prod.mk.injEq]
      exact ⟨fun e => ⟨v', e, rfl⟩, fun ⟨_, e, _⟩ => e⟩
  · simp [stateAt, List.take_of_length_le hk, List.take_of_length_le (Nat.le_succ_of_le hk)]
  · have hlt : j < l.toArray.size := (Array.getElem?_eq_some_iff.1 hj).1
    have hlt' : j < l.length := by simpa using hlt
    simp [Array.getD, hlt'] at hl
  · have := no_writer (A := stateAt a ps) (ps := ps) (t := t) (fun k o v hk => stateAt_succ hk) (fun k hk => by simp [stateAt, List.take_of_length_le hk, List.take_of_length_le (Nat.le_succ_of_le hk)]) k 0 (fun j o v _ hjk hpj hd => by
      have hoj : l.toArray[j]? = some o := by
        have e : l.toArray[j]? = (l.take m)[j]? := by simp [show j < m by omega]
        rw [e, ← h1]
        simp [hpj]
      have hlt : j < l.toArray.size := (Array.getElem?_eq_some_iff.1 hoj).1
      have hlt' : j < l.length := by simpa using hlt
      have := (hk j o (by omega) hoj hd).2 (by omega)
      simp [Array.getD, hlt'] at this)
    rw [Nat.zero_add] at this
    rw [this]
    simp [stateAt]
  · exact Nat.le_trans List.count_le_length (by simp)

/-! ### The same with stores: the world goes through phases, one store a phase -/

/-- In every world that meets S the operation yields v, and S' holds behind it. -/
def LandsTo (P : Program) (S S' : World → Prop) (x : Sem Next) (v : Value) : Prop :=
  ∀ w, S w → match x.run P w with
    | .ok (.value u) w' => u = v ∧ S' w'
    | .ok (.enter f args) w' => Calls P f args w' fun e w'' => e = .returned v ∧ S' w''
    | .ok .skip w' => v = undef ∧ S' w'
    | _ => False

theorem LandsTo.wp {S S' : World → Prop} {o : Oper} {a : Act} {v : Value} (h : LandsTo P S S' (execOp a.eval o) v) {w : World} (hS : S w) {K : Act → World → Prop} {Q : Exit → Act → World → Prop}
    (hK : ∀ w', S' w' → K (a.put o.dst v) w') : o.wp P a w K Q := by
  have h1 := h w hS
  unfold Oper.wp
  generalize (execOp a.eval o).run P w = r at h1
  cases r with
  | ok n w' =>
    cases n <;> simp only at h1 <;> simp only [Oper.upon]
    case value u => obtain ⟨rfl, h2⟩ := h1; exact hK _ h2
    case skip => obtain ⟨rfl, h2⟩ := h1; exact hK _ h2
    case enter f args => exact h1.mono fun e w'' ⟨he, h2⟩ => by subst he; exact hK _ h2
  | halt x w' => exact h1.elim

def isPure (o : Oper) : Bool := match o.op with
  | .move _ | .assign _ | .pick .. | .build .. | .fieldAddr .. | .field .. | .binOp .. | .unOp .. | .extract .. | .nilCheck _ | .indexAddr .. | .index .. | .slice .. | .convert .. => true
  | .call { callee := .builtin .len, .. } | .call { callee := .builtin .max, .. } | .call { callee := .builtin .min, .. } => true
  | _ => false
def isEff (o : Oper) : Bool := match o.op with
  | .store .. => true
  | _ => false
/-- Pure, or one of those that the prover names (by their slots): they may come up in any phase. -/
def isFree (L : List Nat) (o : Oper) : Bool := !isEff o && (isPure o || match o.dst with | some d => L.contains d | none => false)
theorem eff_not_free {L : List Nat} {o : Oper} (h : isEff o = true) : isFree L o = false := by simp [isFree, h]

/-- A store and whatever looks at the world are held in the order of the text. -/
def phOk (L : List Nat) (ops : Array Oper) : Bool :=
  (List.range ops.size).all fun j => match ops[j]? with
    | none => true
    | some oj => (List.range j).all fun i => match ops[i]? with
      | none => true
      | some oi => isFree L oi || isFree L oj || !(isEff oi || isEff oj) || oj.after.toList.any (fun e => Region.binds .any e && e.on == i)

theorem phOk_spec {L : List Nat} {ops : Array Oper} (h : phOk L ops = true) {i j : Nat} {oi oj : Oper} (hj : ops[j]? = some oj) (hi : ops[i]? = some oi) (hij : i < j)
    (h1 : isFree L oi = false) (h2 : isFree L oj = false) (h3 : isEff oi = true ∨ isEff oj = true) : ∃ e ∈ oj.after, Region.binds .any e = true ∧ e.on = i := by
  have hlt : j < ops.size := (Array.getElem?_eq_some_iff.1 hj).1
  have h4 := List.all_eq_true.1 h j (by simpa using hlt)
  simp only [hj] at h4
  have h5 := List.all_eq_true.1 h4 i (by simpa using hij)
  simp only [hi, h1, h2, Bool.false_or, Bool.or_eq_true, Bool.not_eq_true', Bool.or_eq_false_iff] at h5
  rcases h5 with ⟨h5, h6⟩ | h5
  · rcases h3 with h3 | h3
    · rw [h3] at h5; cases h5
    · rw [h3] at h6; cases h6
  · obtain ⟨e, he, hb⟩ := List.any_eq_true.1 h5
    simp only [Bool.and_eq_true, beq_iff_eq] at hb
    exact ⟨e, by simpa using he, hb.1, hb.2⟩

def effAt (ops : Array Oper) (i : Nat) : Bool := match ops[i]? with | some o => isEff o | none => false
def cnt (ops : Array Oper) (f : Nat → Bool) : Nat := (List.range ops.size).countP fun i => f i && effAt ops i

theorem cnt_congr {ops : Array Oper} {f g : Nat → Bool} (h : ∀ i, i < ops.size → effAt ops i = true → f i = g i) : cnt ops f = cnt ops g := by
  unfold cnt
  refine List.countP_congr fun i hi => ?_
  have hlt : i < ops.size := by simpa using hi
  cases he : effAt ops i with
  | false => simp
  | true => simp [h i hlt he]

theorem countP_more {f g : Nat → Bool} {i : Nat} (hf : f i = false) (hg : g i = true) (h : ∀ j, j ≠ i → f j = g j) : ∀ n, i < n → (List.range n).countP g = (List.range n).countP f + 1
  | 0, hi => by omega
  | n + 1, hi => by
    rw [List.range_succ, List.countP_append, List.countP_append]
    by_cases hin : i = n
    · subst hin
      have : (List.range i).countP g = (List.range i).countP f := List.countP_congr fun j hj => by have h2 : j < i := (by simpa using hj); rw [h j (by omega)]
      simp [hf, hg, this]
    · have := countP_more hf hg h n (by omega)
      rw [this, List.countP_singleton, List.countP_singleton, h n (fun e => hin e.symm)]
      omega

theorem cnt_more {ops : Array Oper} {f g : Nat → Bool} {i : Nat} (hi : i < ops.size) (he : effAt ops i = true) (hf : f i = false) (hg : g i = true) (h : ∀ j, j ≠ i → f j = g j) : cnt ops g = cnt ops f + 1 :=
  countP_more (f := fun i => f i && effAt ops i) (g := fun i => g i && effAt ops i) (by simp [hf]) (by simp [hg, he]) (fun j hj => by simp [h j hj]) _ hi

/-- One operation in phase p. -/
def LandsPh (L : List Nat) (P : Program) (ops : Array Oper) (S : Nat → World → Prop) (o : Oper) (v : Value) (p : Nat) (a : Act) : Prop :=
  (Region.wanted o (yielded ops a.tmps) = true ∧
    ((isFree L o = true ∧ ∀ q, LandsTo P (S q) (S q) (execOp a.eval o) v) ∨ (isFree L o = false ∧ isEff o = false ∧ LandsTo P (S p) (S p) (execOp a.eval o) v) ∨ (isEff o = true ∧ LandsTo P (S p) (S (p + 1)) (execOp a.eval o) v))) ∨
  (Region.wanted o (yielded ops a.tmps) = false ∧ v = undef ∧ isEff o = false)

def wpPh (L : List Nat) (P : Program) (ops : Array Oper) (S : Nat → World → Prop) (R : Nat → Act → Prop) : List Oper → Nat → Act → Prop
  | [], p, a => R p a
  | o :: rest, p, a => ∃ v, LandsPh L P ops S o v p a ∧ wpPh L P ops S R rest (if isEff o then p + 1 else p) (a.put o.dst v)

def phAt (p : Nat) (ps : List (Oper × Value)) (k : Nat) : Nat := (ps.take k).foldl (fun p q => if isEff q.1 then p + 1 else p) p
theorem phAt_succ {p : Nat} {ps : List (Oper × Value)} {k : Nat} {o : Oper} {v : Value} (h : ps[k]? = some (o, v)) : phAt p ps (k + 1) = if isEff o then phAt p ps k + 1 else phAt p ps k := by
  simp [phAt, List.take_add_one, h, List.foldl_append]

theorem wpPh_pairs {L : List Nat} {ops : Array Oper} {S : Nat → World → Prop} {R : Nat → Act → Prop} : ∀ (l : List Oper) (p : Nat) (a : Act), wpPh L P ops S R l p a →
    ∃ ps : List (Oper × Value), ps.map (·.1) = l ∧ (∀ k o v, ps[k]? = some (o, v) → LandsPh L P ops S o v (phAt p ps k) (stateAt a ps k)) ∧ R (phAt p ps ps.length) (stateAt a ps ps.length)
  | [], p, a, h => ⟨[], rfl, by simp, by simpa [stateAt, phAt, wpPh] using h⟩
  | o :: rest, p, a, ⟨v, hv, h⟩ => by
    obtain ⟨ps, h1, h2, h3⟩ := wpPh_pairs rest _ _ h
    refine ⟨(o, v) :: ps, by simp [h1], fun k o' v' hk => ?_, by simpa [stateAt, phAt] using h3⟩
    cases k with
    | zero => simp at hk; obtain ⟨rfl, rfl⟩ := hk; simpa [stateAt, phAt] using hv
    | succ k => simpa [stateAt, phAt] using h2 k o' v' (by simpa using hk)

theorem phAt_cnt {ops : Array Oper} {ps : List (Oper × Value)} (hps : ∀ (j : Nat) (o : Oper), ops[j]? = some o ↔ ∃ v : Value, ps[j]? = some (o, v)) :
    ∀ k, k ≤ ops.size → phAt 0 ps k = cnt ops (fun i => decide (i < k))
  | 0, _ => by
    have h : ∀ l : List Nat, l.countP (fun i => decide (i < 0) && effAt ops i) = 0 := fun l => List.countP_eq_zero.2 fun i _ => by simp
    rw [cnt, h]
    simp [phAt]
  | k + 1, hk => by
    have ih := phAt_cnt hps k (by omega)
    have ho : ops[k]? = some ops[k] := Array.getElem?_eq_getElem (by omega)
    obtain ⟨v, hv⟩ := (hps k _).1 ho
    rw [phAt_succ hv, ih]
    have he : effAt ops k = isEff ops[k] := by simp [effAt, ho]
    cases hb : isEff ops[k] with
    | true =>
      rw [if_pos rfl]
      exact (cnt_more (i := k) (by omega) (by rw [he, hb]) (by simp) (by simp) (fun j hj => by simp; omega)).symm
    | false =>
      simp only [Bool.false_eq_true, if_false]
      refine cnt_congr fun i hi hei => ?_
      have : i ≠ k := fun e => by subst e; rw [he, hb] at hei; cases hei
      simp
      omega

theorem ph_any {L : List Nat} {dn : Nat → Bool} {ops : Array Oper} {S : Nat → World → Prop} {A : Nat → Act} {ps : List (Oper × Value)} {Q : Exit → Act → World → Prop} (hok : seqOk ops = true) (hph : phOk L ops = true)
    (hps : ∀ (j : Nat) (o : Oper), ops[j]? = some o ↔ ∃ v : Value, ps[j]? = some (o, v))
    (hA : ∀ (k : Nat) (o : Oper) (v : Value), ps[k]? = some (o, v) → A (k + 1) = (A k).put o.dst v) (hN : ∀ k, ps.length ≤ k → A (k + 1) = A k)
    (hL : ∀ (k : Nat) (o : Oper) (v : Value), dn k = false → ps[k]? = some (o, v) → LandsPh L P ops S o v (phAt 0 ps k) (A k)) (hQ : ∀ w, S (phAt 0 ps ps.length) w → Q .normal (A ps.length) w) (hlen : ps.length = ops.size) :
    ∀ (fuel : Nat) (listed : Array Bool) (a : Act) (w : World), (∀ k, dn k = true → listed.getD k true = true) → Inv ops A listed a → S (cnt ops fun i => listed.getD i true) w → listed.toList.count false ≤ fuel → wpAny P .any ops Q fuel listed a w := by
  have hfin : ∀ (listed : Array Bool) (a : Act) (w : World), Inv ops A listed a → S (cnt ops fun i => listed.getD i true) w → (∀ j, listed.getD j true = true) → Q .normal a w := by
    intro listed a w I hS hall
    have : a = A ps.length := by
      have hs0 : ∀ k, (A k).tmps.size = (A 0).tmps.size ∧ (A k).defers = (A 0).defers := by
        intro k
        induction k with
        | zero => exact ⟨rfl, rfl⟩
        | succ k ih =>
          cases hk : ps[k]? with
          | none => rw [hN k (by simpa using hk)]; exact ih
          | some p => rw [hA k p.1 p.2 hk, put_size, put_defers]; exact ih
      obtain ⟨ta, da⟩ := a
      have e1 : ta = (A ps.length).tmps := Array.ext_getElem? fun t => I.slots t ps.length fun j oj hoj _ => by
        simp only [hall j, true_iff]
        rw [hlen]
        exact (Array.getElem?_eq_some_iff.1 hoj).1
      have e2 : da = (A ps.length).defers := I.defers.trans (hs0 _).2.symm
      rw [e1, e2]
    rw [this]
    refine hQ w ?_
    rw [phAt_cnt hps _ (by omega)]
    have : cnt ops (fun i => listed.getD i true) = cnt ops (fun i => decide (i < ps.length)) := cnt_congr fun i hi _ => by rw [hall i]; simp; omega
    rw [← this]
    exact hS
  intro fuel
  induction fuel with
  | zero =>
    intro listed a w hD I hS hc
    have hall : ∀ j, listed.getD j true = true := by
      intro j
      rcases Nat.lt_or_ge j listed.size with hlt | hge
      · cases hl : listed.getD j true with
        | true => rfl
        | false =>
          have hv : listed[j] = false := by simpa [Array.getD, hlt] using hl
          have hm : false ∈ listed.toList := by
            rw [← hv]
            exact Array.mem_toList_iff.2 (Array.getElem_mem hlt)
          have := List.count_pos_iff.2 hm
          omega
      · simp [Array.getD, Nat.not_lt.2 hge]
    refine ⟨?_, hfin listed a w I hS hall⟩
    rcases hr : Region.ready .any ops listed with _ | ⟨i, r⟩
    · rfl
    · have := (ready_spec (ops := ops) (listed := listed) (i := i) (by rw [hr]; simp)).1
      rw [hall] at this
      cases this
  | succ fuel ih =>
    intro listed a w hD I hS hc
    refine ⟨fun hr => hfin listed a w I hS (all_listed I.size hok hr), fun i hi => ?_⟩
    obtain ⟨hu, o, ho, he⟩ := ready_spec hi
    obtain ⟨v, hp⟩ := (hps i o).1 ho
    have hI := inv_step hok hps hA hN I hi hp
    have hc' := count_set hu hc
    have hlt : i < listed.size := by rw [I.size]; exact (Array.getElem?_eq_some_iff.1 ho).1
    have hios : i < ops.size := (Array.getElem?_eq_some_iff.1 ho).1
    have heo : effAt ops i = isEff o := by simp [effAt, ho]
    -- the frame's slots that o looks at are as in the text's order
    obtain ⟨hsel, _, h3⟩ := seqOk_spec hok ho
    obtain ⟨e1, e2⟩ := same_exec (ops := ops) (a := a) (b := A i) hsel (fun t ht => I.slots t i fun j oj hoj hdj => by
      constructor
      · intro hl
        rcases Nat.lt_trichotomy j i with h4 | h4 | h4
        · exact h4
        · subst h4; rw [hu] at hl; cases hl
        · exfalso
          obtain ⟨_, _, h5⟩ := seqOk_spec hok hoj
          rcases h5 i o h4 ho with h6 | ⟨e, hem, hb, heq⟩
          · exact (Oper.apart_spec h6).2.2 t hdj ht
          · have := I.down j oj hoj hl e hem hb
            rw [heq, getD_both hlt, hu] at this
            cases this
      · intro hji
        rcases h3 j oj hji hoj with h6 | ⟨e, hem, hb, heq⟩
        · exact absurd ht ((Oper.apart_spec h6).1 t hdj)
        · have := he e hem hb
          rw [heq, getD_both (by omega)] at this
          exact this)
    have hdi : dn i = false := by
      cases hb : dn i with
      | false => rfl
      | true => rw [hD i hb] at hu; cases hu
    have hD' : ∀ k, dn k = true → (listed.setIfInBounds i true).getD k true = true := fun k hk => by
      rw [getD_set hlt]
      split
      · rfl
      · exact hD k hk
    have hl := hL i o v hdi hp
    unfold LandsPh at hl
    rw [← e1, ← e2] at hl
    -- the phase is the text's own, for whatever looks at the world
    have hphase : isFree L o = false → cnt ops (fun i => listed.getD i true) = phAt 0 ps i := by
      intro hpu
      rw [phAt_cnt hps i (by omega)]
      refine cnt_congr fun j hj hej => ?_
      have hoj : ops[j]? = some ops[j] := Array.getElem?_eq_getElem hj
      have hej' : isEff ops[j] = true := by simpa [effAt, hoj] using hej
      rcases Nat.lt_trichotomy j i with h4 | h4 | h4
      · obtain ⟨e, hem, hb, heq⟩ := phOk_spec hph ho hoj h4 (eff_not_free hej') hpu (.inl hej')
        have := he e hem hb
        rw [heq, getD_both (by omega)] at this
        simp only [this, h4, decide_true]
      · subst h4
        simp only [hu, Nat.lt_irrefl, decide_false]
      · have : listed.getD j true = false := by
          cases hlj : listed.getD j true with
          | false => rfl
          | true =>
            obtain ⟨e, hem, hb, heq⟩ := phOk_spec hph hoj ho h4 hpu (eff_not_free hej') (.inr hej')
            have := I.down j _ hoj hlj e hem hb
            rw [heq, getD_both hlt, hu] at this
            cases this
        simp only [this, Nat.not_lt.2 (Nat.le_of_lt h4), decide_false]
    have hsame : isEff o = false → cnt ops (fun k => (listed.setIfInBounds i true).getD k true) = cnt ops (fun i => listed.getD i true) := fun hne => cnt_congr fun j hj hej => by
      rw [getD_set hlt, if_neg (fun e => by subst e; rw [heo, hne] at hej; cases hej)]
    have hnext : isEff o = true → cnt ops (fun k => (listed.setIfInBounds i true).getD k true) = cnt ops (fun i => listed.getD i true) + 1 := fun hye =>
      cnt_more hios (by rw [heo, hye]) hu (by rw [getD_set hlt, if_pos rfl]) (fun j hj => by rw [getD_set hlt, if_neg hj])
    unfold wpOp
    simp only [ho]
    rcases hl with ⟨hw, hl⟩ | ⟨hw, rfl, hne⟩
    · rw [if_pos hw]
      refine .inl ?_
      rcases hl with ⟨hpu, hl⟩ | ⟨hpu, hne, hl⟩ | ⟨hye, hl⟩
      · have hne : isEff o = false := by
          cases hb : isEff o with
          | false => rfl
          | true => rw [eff_not_free hb] at hpu; cases hpu
        exact (hl _).wp hS fun w' hS' => ih _ _ _ hD' hI (by rw [hsame hne]; exact hS') hc'
      · have hcn := hphase hpu
        rw [hcn] at hS
        exact hl.wp hS fun w' hS' => ih _ _ _ hD' hI (by rw [hsame hne, hcn]; exact hS') hc'
      · have hcn := hphase (eff_not_free hye)
        rw [hcn] at hS
        exact hl.wp hS fun w' hS' => ih _ _ _ hD' hI (by rw [hnext hye, hcn]; exact hS') hc'
    · rw [if_neg (by rw [hw]; simp)]
      exact ih _ _ _ hD' hI (by rw [hsame hne]; exact hS) hc'

/-- **A region that draws its order and stores.** -/
theorem wp_region_ph {id : Nat} {l : List Oper} {a : Act} {w : World} {Q : Exit → Act → World → Prop} (L : List Nat) (S : Nat → World → Prop) (hm : P.follows .mixedOrders = true) (hok : seqOk l.toArray = true) (hph : phOk L l.toArray = true) (hS : S 0 w.drew)
    (h : wpPh L P l.toArray S (fun p a' => ∀ w', S p w' → Q .normal a' w') l 0 a) : (Code.region id l.toArray true).wp P Q a w := by
  refine wp_region_any hm ?_
  obtain ⟨ps, h1, h2, h3⟩ := wpPh_pairs l 0 a h
  have hlen : ps.length = l.toArray.size := by rw [← h1]; simp
  refine ph_any (S := S) (dn := fun _ => false) (A := stateAt a ps) (ps := ps) hok hph (fun j o => ?_) (fun k o v hk => stateAt_succ hk) (fun k hk => ?_) (fun k o v _ => h2 k o v) h3 hlen l.toArray.size _ a _ (fun _ h => by cases h) ?_ ?_ ?_
  · rw [← h1]
    simp only [List.getElem?_toArray, List.getElem?_map]
    cases hp : ps[j]? with
    | none => simp
    | some p =>
      obtain ⟨o', v'⟩ := p
      simp only [Option.map_some, Option.some.injEq, Prod.mk.injEq]
      exact ⟨fun e => ⟨v', e, rfl⟩, fun ⟨_, e, _⟩ => e⟩
  · simp [stateAt, List.take_of_length_le hk, List.take_of_length_le (Nat.le_succ_of_le hk)]
  · refine ⟨by simp, fun j oj hj hl => ?_, by simp [stateAt], by simp [stateAt], fun t k hk => ?_⟩
    · have hlt : j < l.toArray.size := (Array.getElem?_eq_some_iff.1 hj).1
      have hlt' : j < l.length := by simpa using hlt
      simp [Array.getD, hlt'] at hl
    · have := no_writer (A := stateAt a ps) (ps := ps) (t := t) (fun k o v hk => stateAt_succ hk) (fun k hk => by simp [stateAt, List.take_of_length_le hk, List.take_of_length_le (Nat.le_succ_of_le hk)]) k 0 (fun j o v _ hjk hpj hd => by
        have hoj : l.toArray[j]? = some o := by rw [← h1]; simp [hpj]
        have hlt : j < l.toArray.size := (Array.getElem?_eq_some_iff.1 hoj).1
        have hlt' : j < l.length := by simpa using hlt
        have := (hk j o hoj hd).2 (by omega)
        simp [Array.getD, hlt'] at this)
      rw [Nat.zero_add] at this
      rw [this]
      simp [stateAt]
  · have : cnt l.toArray (fun i => (Array.replicate l.toArray.size false).getD i true) = 0 := List.countP_eq_zero.2 fun i hi => by
      have hlt : i < l.length := by simpa using hi
      simp [Array.getD, hlt]
    rw [this]
    exact hS
  · exact Nat.le_trans List.count_le_length (by simp)

/-! ### The same with a new variable, whose place among the calls is open -/

/-- From number m on every operation waits for number m; ahead of it nothing is stored. -/
def newOk (ops : Array Oper) (m : Nat) : Bool :=
  (List.range ops.size).all fun j => match ops[j]? with
    | none => true
    | some oj => if j < m then !isEff oj else j == m || oj.after.toList.any (fun e => Region.binds .any e && e.on == m)

theorem newOk_spec {ops : Array Oper} {m : Nat} (h : newOk ops m = true) {j : Nat} {oj : Oper} (hj : ops[j]? = some oj) :
    (j < m → isEff oj = false) ∧ (m < j → ∃ e ∈ oj.after, Region.binds .any e = true ∧ e.on = m) := by
  have hlt : j < ops.size := (Array.getElem?_eq_some_iff.1 hj).1
  have h1 := List.all_eq_true.1 h j (by simpa using hlt)
  simp only [hj] at h1
  refine ⟨fun hm => by rw [if_pos hm] at h1; simpa using h1, fun hm => ?_⟩
  rw [if_neg (by omega)] at h1
  simp only [Bool.or_eq_true, beq_iff_eq] at h1
  rcases h1 with h1 | h1
  · omega
  · obtain ⟨e, he, hb⟩ := List.any_eq_true.1 h1
    simp only [Bool.and_eq_true, beq_iff_eq] at hb
    exact ⟨e, by simpa using he, hb.1, hb.2⟩

/-- One operation ahead of the new variable in the text: it lands as long as the variable is not there, and behind it too. -/
def LandsPre (L : List Nat) (P : Program) (ops : Array Oper) (S0 : World → Prop) (S : Nat → Nat → World → Prop) (o : Oper) (v : Value) (a : Act) : Prop :=
  (Region.wanted o (yielded ops a.tmps) = true ∧ LandsTo P S0 S0 (execOp a.eval o) v ∧
    ((isFree L o = true ∧ ∀ g q, LandsTo P (S g q) (S g q) (execOp a.eval o) v) ∨ (isFree L o = false ∧ isEff o = false ∧ ∀ g, LandsTo P (S g 0) (S g 0) (execOp a.eval o) v))) ∨
  (Region.wanted o (yielded ops a.tmps) = false ∧ v = undef ∧ isEff o = false)

def wpPre (L : List Nat) (P : Program) (ops : Array Oper) (S0 : World → Prop) (S : Nat → Nat → World → Prop) (R : Act → Prop) : List Oper → Act → Prop
  | [], a => R a
  | o :: rest, a => ∃ v, LandsPre L P ops S0 S o v a ∧ wpPre L P ops S0 S R rest (a.put o.dst v)

theorem wpPre_pairs {L : List Nat} {ops : Array Oper} {S0 : World → Prop} {S : Nat → Nat → World → Prop} {R : Act → Prop} : ∀ (l : List Oper) (a : Act), wpPre L P ops S0 S R l a →
    ∃ ps : List (Oper × Value), ps.map (·.1) = l ∧ (∀ k o v, ps[k]? = some (o, v) → LandsPre L P ops S0 S o v (stateAt a ps k)) ∧ R (stateAt a ps ps.length)
  | [], a, h => ⟨[], rfl, by simp, by simpa [stateAt, wpPre] using h⟩
  | o :: rest, a, ⟨v, hv, h⟩ => by
    obtain ⟨ps, h1, h2, h3⟩ := wpPre_pairs rest _ h
    refine ⟨(o, v) :: ps, by simp [h1], fun k o' v' hk => ?_, by simpa [stateAt] using h3⟩
    cases k with
    | zero => simp at hk; obtain ⟨rfl, rfl⟩ := hk; simpa [stateAt] using hv
    | succ k => simpa [stateAt] using h2 k o' v' (by simpa using hk)

theorem phAt_append {p : Nat} {xs ys : List (Oper × Value)} (k : Nat) : phAt p (xs ++ ys) (xs.length + k) = phAt (phAt p xs xs.length) ys k := by
  simp [phAt, List.take_append, List.foldl_append, List.take_of_length_le]
theorem stateAt_append {a : Act} {xs ys : List (Oper × Value)} (k : Nat) : stateAt a (xs ++ ys) (xs.length + k) = stateAt (stateAt a xs xs.length) ys k := by
  simp [stateAt, List.take_append, List.foldl_append, List.take_of_length_le]
theorem stateAt_left {a : Act} {xs ys : List (Oper × Value)} {k : Nat} (h : k ≤ xs.length) : stateAt a (xs ++ ys) k = stateAt a xs k := by
  simp [stateAt, List.take_append_of_le_length h]
theorem phAt_none {p : Nat} {xs : List (Oper × Value)} (h : ∀ q ∈ xs, isEff q.1 = false) : ∀ k, phAt p xs k = p := by
  intro k
  unfold phAt
  have : ∀ (l : List (Oper × Value)) (p : Nat), (∀ q ∈ l, isEff q.1 = false) → l.foldl (fun p q => if isEff q.1 then p + 1 else p) p = p := by
    intro l
    induction l with
    | nil => intros; rfl
    | cons x l ih => intro p hl; simp only [List.foldl_cons]; rw [if_neg (by rw [hl x (by simp)]; simp)]; exact ih p fun q hq => hl q (by simp [hq])
  exact this _ p fun q hq => h q (List.mem_of_mem_take hq)

/-- **A region that draws its order, makes a new variable somewhere, and stores behind it.** The new variable's block is g, whatever it is. -/
theorem wp_region_new {id : Nat} {l : List Oper} {a : Act} {w : World} {Q : Exit → Act → World → Prop} (L : List Nat) (m : Nat) (S0 : World → Prop) (S : Nat → Nat → World → Prop) {al : Oper} (hm : P.follows .mixedOrders = true)
    (hok : seqOk l.toArray = true) (hph : phOk L l.toArray = true) (hnew : newOk l.toArray m = true) (hal : l[m]? = some al) (hea : isEff al = false) (hga : al.guard = none) (hS : S0 w.drew)
    (hA0 : ∀ ρ w, S0 w → ∃ w', (execOp ρ al).run P w = .ok (.value (.pointer (some ⟨w.heap.size, 0, none⟩))) w' ∧ S w.heap.size 0 w')
    (h : wpPre L P l.toArray S0 S (fun a' => ∀ g, wpPh L P l.toArray (S g) (fun p a'' => ∀ w', S g p w' → Q .normal a'' w') (l.drop (m + 1)) 0 (a'.put al.dst (.pointer (some ⟨g, 0, none⟩)))) (l.take m) a) :
    (Code.region id l.toArray true).wp P Q a w := by
  refine wp_region_any hm ?_
  have hml : m < l.length := (List.getElem?_eq_some_iff.1 hal).1
  obtain ⟨ps, h1, h2, h3⟩ := wpPre_pairs (l.take m) a h
  have hlen : ps.length = m := by
    have : (ps.map (·.1)).length = (l.take m).length := by rw [h1]
    simpa [Nat.min_eq_left (Nat.le_of_lt hml)] using this
  rw [hlen] at h3
  have hps1 : ∀ (j : Nat) (o : Oper), j < m → (l.toArray[j]? = some o ↔ ∃ v : Value, ps[j]? = some (o, v)) := by
    intro j o hj
    have e : l.toArray[j]? = (l.take m)[j]? := by simp [hj]
    rw [e, ← h1]
    simp only [List.getElem?_map]
    cases hp : ps[j]? with
    | none => simp
    | some p =>
      obtain ⟨o', v'⟩ := p
      simp only [Option.map_some, Option.some.injEq, Prod.mk.injEq]
      exact ⟨fun e => ⟨v', e, rfl⟩, fun ⟨_, e, _⟩ => e⟩
  have hnoeff : ∀ q ∈ ps, isEff q.1 = false := by
    intro q hq
    obtain ⟨k, hk⟩ := List.mem_iff_getElem?.1 hq
    have hkm : k < m := by rw [← hlen]; exact (List.getElem?_eq_some_iff.1 hk).1
    exact (newOk_spec hnew ((hps1 k q.1 hkm).2 ⟨q.2, hk⟩)).1 hkm
  have hpost : ∀ g : Nat, ∃ qs : List (Oper × Value), qs.map (·.1) = l ∧ qs.take m = ps ∧ qs[m]? = some (al, .pointer (some ⟨g, 0, none⟩)) ∧
      (∀ (k : Nat) (o : Oper) (v : Value), decide (k = m) = false → qs[k]? = some (o, v) → LandsPh L P l.toArray (S g) o v (phAt 0 qs k) (stateAt a qs k)) ∧
      (∀ w', S g (phAt 0 qs qs.length) w' → Q .normal (stateAt a qs qs.length) w') := by
    intro g
    obtain ⟨rs, r1, r2, r3⟩ := wpPh_pairs (l.drop (m + 1)) 0 _ (h3 g)
    have e0 : phAt 0 (ps ++ [(al, .pointer (some ⟨g, 0, none⟩))]) (m + 1) = 0 := by
      rw [phAt_succ (k := m) (o := al) (v := .pointer (some ⟨g, 0, none⟩)) (by rw [← hlen]; simp), if_neg (by rw [hea]; simp)]
      have := phAt_append (p := 0) (xs := ps) (ys := [(al, Value.pointer (some ⟨g, 0, none⟩))]) 0
      rw [Nat.add_zero, hlen] at this
      rw [this, phAt_none hnoeff]
      rfl
    have e1 : stateAt a (ps ++ [(al, .pointer (some ⟨g, 0, none⟩))]) (m + 1) = (stateAt a ps m).put al.dst (.pointer (some ⟨g, 0, none⟩)) := by
      rw [stateAt_succ (k := m) (o := al) (v := .pointer (some ⟨g, 0, none⟩)) (by rw [← hlen]; simp), stateAt_left (by omega)]
    have hl1 : (ps ++ [(al, Value.pointer (some ⟨g, 0, none⟩))]).length = m + 1 := by simp [hlen]
    refine ⟨(ps ++ [(al, .pointer (some ⟨g, 0, none⟩))]) ++ rs, ?_, ?_, ?_, ?_, ?_⟩
    · rw [List.map_append, List.map_append, h1, r1]
      have : l.take m ++ [al] = l.take (m + 1) := by rw [List.take_add_one, hal]; rfl
      simp only [List.map_cons, List.map_nil]
      rw [this, List.take_append_drop]
    · rw [List.append_assoc, ← hlen]
      simp
    · rw [List.append_assoc, ← hlen]
      simp
    · intro k o v hkm hk
      rcases Nat.lt_trichotomy k m with h4 | h4 | h4
      · have hk' : ps[k]? = some (o, v) := by
          rw [List.append_assoc, List.getElem?_append_left (by omega)] at hk
          exact hk
        have hph0 : phAt 0 ((ps ++ [(al, .pointer (some ⟨g, 0, none⟩))]) ++ rs) k = 0 := by
          have : phAt 0 ((ps ++ [(al, Value.pointer (some ⟨g, 0, none⟩))]) ++ rs) k = phAt 0 ps k := by
            unfold phAt
            rw [List.append_assoc, List.take_append_of_le_length (by omega)]
          rw [this, phAt_none hnoeff]
        rw [hph0, List.append_assoc, stateAt_left (by omega)]
        rcases h2 k o v hk' with ⟨hw, _, hl⟩ | hl
        · refine .inl ⟨hw, ?_⟩
          rcases hl with ⟨hf, hl⟩ | ⟨hf, hne, hl⟩
          · exact .inl ⟨hf, hl g⟩
          · exact .inr (.inl ⟨hf, hne, hl g⟩)
        · exact .inr hl
      · subst h4; simp at hkm
      · have hk' : rs[k - (m + 1)]? = some (o, v) := by
          rw [List.getElem?_append_right (by omega), hl1] at hk
          exact hk
        have := r2 (k - (m + 1)) o v hk'
        have e2 := phAt_append (p := 0) (xs := ps ++ [(al, Value.pointer (some ⟨g, 0, none⟩))]) (ys := rs) (k - (m + 1))
        have e3 := stateAt_append (a := a) (xs := ps ++ [(al, Value.pointer (some ⟨g, 0, none⟩))]) (ys := rs) (k - (m + 1))
        rw [hl1, show m + 1 + (k - (m + 1)) = k from by omega] at e2 e3
        rw [e2, e3, e0, e1]
        exact this
    · have e2 := phAt_append (p := 0) (xs := ps ++ [(al, Value.pointer (some ⟨g, 0, none⟩))]) (ys := rs) rs.length
      have e3 := stateAt_append (a := a) (xs := ps ++ [(al, Value.pointer (some ⟨g, 0, none⟩))]) (ys := rs) rs.length
      have e4 : ((ps ++ [(al, Value.pointer (some ⟨g, 0, none⟩))]) ++ rs).length = (ps ++ [(al, Value.pointer (some ⟨g, 0, none⟩))]).length + rs.length := List.length_append
      rw [e4, e2, e3, hl1, e0, e1]
      exact r3
  have hget : ∀ (qs : List (Oper × Value)), qs.map (·.1) = l → ∀ (j : Nat) (o : Oper), l.toArray[j]? = some o ↔ ∃ v : Value, qs[j]? = some (o, v) := by
    intro qs hq j o
    rw [← hq]
    simp only [List.getElem?_toArray, List.getElem?_map]
    cases hp : qs[j]? with
    | none => simp
    | some p =>
      obtain ⟨o', v'⟩ := p
      simp only [Option.map_some, Option.some.injEq, Prod.mk.injEq]
      exact ⟨fun e => ⟨v', e, rfl⟩, fun ⟨_, e, _⟩ => e⟩
  have hlast : ∀ (qs : List (Oper × Value)) (k : Nat), qs.length ≤ k → stateAt a qs (k + 1) = stateAt a qs k := fun qs k hk => by
    simp [stateAt, List.take_of_length_le hk, List.take_of_length_le (Nat.le_succ_of_le hk)]
  -- the walk as long as the variable is not there
  have main : ∀ (fuel : Nat) (listed : Array Bool) (a' : Act) (w' : World), listed.getD m true = false →
      (∀ qs : List (Oper × Value), qs.map (·.1) = l → qs.take m = ps → Inv l.toArray (stateAt a qs) listed a') → S0 w' → listed.toList.count false ≤ fuel → wpAny P .any l.toArray Q fuel listed a' w' := by
    intro fuel
    induction fuel with
    | zero =>
      intro listed a' w' hmu I hS hc
      exfalso
      have hlt : m < listed.size := by
        rcases Nat.lt_or_ge m listed.size with h | h
        · exact h
        · simp [Array.getD, Nat.not_lt.2 h] at hmu
      have hv : listed[m] = false := by simpa [Array.getD, hlt] using hmu
      have hm' : false ∈ listed.toList := by rw [← hv]; exact Array.mem_toList_iff.2 (Array.getElem_mem hlt)
      have := List.count_pos_iff.2 hm'
      omega
    | succ fuel ih =>
      intro listed a' w' hmu I hS hc
      obtain ⟨q0, q01, q02, _, _, _⟩ := hpost 0
      have hsize := (I q0 q01 q02).size
      refine ⟨fun hr => ?_, fun i hi => ?_⟩
      · have := all_listed hsize hok hr m
        rw [this] at hmu
        cases hmu
      obtain ⟨hu, o, ho, he⟩ := ready_spec hi
      have hlt : i < listed.size := by rw [hsize]; exact (Array.getElem?_eq_some_iff.1 ho).1
      have hc' := count_set hu hc
      rcases Nat.lt_trichotomy i m with h4 | h4 | h4
      · -- ahead of the variable in the text
        obtain ⟨v, hp⟩ := (hps1 i o h4).1 ho
        have hq : ∀ qs : List (Oper × Value), qs.map (·.1) = l → qs.take m = ps → qs[i]? = some (o, v) := fun qs _ hqt => by
          have : (qs.take m)[i]? = some (o, v) := by rw [hqt]; exact hp
          simpa [h4] using this
        have hI : ∀ qs : List (Oper × Value), qs.map (·.1) = l → qs.take m = ps → Inv l.toArray (stateAt a qs) (listed.setIfInBounds i true) (a'.put o.dst v) := fun qs hqs hqt =>
          inv_step hok (hget qs hqs) (fun k o v hk => stateAt_succ hk) (fun k hk => hlast qs k hk) (I qs hqs hqt) hi (hq qs hqs hqt)
        have hmu' : (listed.setIfInBounds i true).getD m true = false := by rw [getD_set hlt, if_neg (by omega)]; exact hmu
        obtain ⟨hsel, _, h5⟩ := seqOk_spec hok ho
        have II := I q0 q01 q02
        have hA0' : stateAt a q0 i = stateAt a ps i := by
          unfold stateAt
          rw [← q02, List.take_take, Nat.min_eq_left (Nat.le_of_lt h4)]
        obtain ⟨e1, e2⟩ := same_exec (ops := l.toArray) (a := a') (b := stateAt a ps i) hsel (fun t ht => by
          rw [← hA0']
          refine II.slots t i fun j oj hoj hdj => ?_
          constructor
          · intro hl
            rcases Nat.lt_trichotomy j i with h6 | h6 | h6
            · exact h6
            · subst h6; rw [hu] at hl; cases hl
            · exfalso
              obtain ⟨_, _, h7⟩ := seqOk_spec hok hoj
              rcases h7 i o h6 ho with h8 | ⟨e, hem, hb, heq⟩
              · exact (Oper.apart_spec h8).2.2 t hdj ht
              · have := II.down j oj hoj hl e hem hb
                rw [heq, getD_both hlt, hu] at this
                cases this
          · intro hji
            rcases h5 j oj hji hoj with h8 | ⟨e, hem, hb, heq⟩
            · exact absurd ht ((Oper.apart_spec h8).1 t hdj)
            · have := he e hem hb
              rw [heq, getD_both (by omega)] at this
              exact this)
        have hl := h2 i o v hp
        unfold LandsPre at hl
        rw [← e1, ← e2] at hl
        unfold wpOp
        simp only [ho]
        rcases hl with ⟨hw, hl, _⟩ | ⟨hw, rfl, _⟩
        · rw [if_pos hw]
          exact .inl (hl.wp hS fun w'' hS' => ih _ _ _ hmu' hI hS' hc')
        · rw [if_neg (by rw [hw]; simp)]
          exact ih _ _ _ hmu' hI hS hc'
      · -- the new variable
        subst h4
        obtain rfl : o = al := by
          have : l.toArray[i]? = some al := by simpa using hal
          rw [ho] at this
          exact Option.some.inj this
        obtain ⟨w'', hrun, hS'⟩ := hA0 a'.eval w' hS
        obtain ⟨qs, q1, q2, q3, q4, q5⟩ := hpost w'.heap.size
        have hI := inv_step hok (hget qs q1) (fun k o v hk => stateAt_succ hk) (fun k hk => hlast qs k hk) (I qs q1 q2) hi q3
        have hcnt : cnt l.toArray (fun k => (listed.setIfInBounds i true).getD k true) = 0 := List.countP_eq_zero.2 fun k hk => by
          have hkl : k < l.toArray.size := by simpa using hk
          have hok' : l.toArray[k]? = some l.toArray[k] := Array.getElem?_eq_getElem hkl
          have hek : effAt l.toArray k = isEff l.toArray[k] := by unfold effAt; rw [hok']
          intro hcon
          simp only [Bool.and_eq_true] at hcon
          obtain ⟨hc1, hc2⟩ := hcon
          rw [hek] at hc2
          rcases Nat.lt_trichotomy k i with h6 | h6 | h6
          · rw [(newOk_spec hnew hok').1 h6] at hc2; cases hc2
          · subst h6
            rw [ho] at hok'
            have := Option.some.inj hok'
            rw [← this, hea] at hc2
            cases hc2
          · obtain ⟨e, hem, hb, heq⟩ := (newOk_spec hnew hok').2 h6
            rw [getD_set hlt, if_neg (by omega)] at hc1
            have := (I qs q1 q2).down k _ hok' hc1 e hem hb
            rw [heq, getD_both hlt, hu] at this
            cases this
        have hqlen : qs.length = l.toArray.size := by
          have : (qs.map (·.1)).length = l.length := by rw [q1]
          simpa using this
        unfold wpOp
        simp only [ho]
        rw [if_pos (by simp [Region.wanted, hga])]
        refine .inl ?_
        unfold Oper.wp
        rw [hrun]
        show wpAny P .any l.toArray Q fuel (listed.setIfInBounds i true) (a'.put o.dst _) w''
        exact ph_any (S := S w'.heap.size) (dn := fun k => decide (k = i)) (A := stateAt a qs) (ps := qs) hok hph (hget qs q1) (fun k o v hk => stateAt_succ hk) (fun k hk => hlast qs k hk) q4 q5 hqlen fuel _ _ w''
          (fun k hk => by simp at hk; rw [hk, getD_set hlt, if_pos rfl]) hI (by rw [hcnt]; exact hS') hc'
      · -- behind it in the text: it waits
        exfalso
        obtain ⟨e, hem, hb, heq⟩ := (newOk_spec hnew ho).2 h4
        have := he e hem hb
        rw [heq, getD_both (by omega), hmu] at this
        cases this
  refine main l.toArray.size _ a _ ?_ (fun qs hqs hqt => ?_) hS (Nat.le_trans List.count_le_length (by simp))
  · simp [Array.getD, hml]
  · refine ⟨by simp, fun j oj hj hl => ?_, by simp [stateAt], by simp [stateAt], fun t k hk => ?_⟩
    · have hlt : j < l.toArray.size := (Array.getElem?_eq_some_iff.1 hj).1
      have hlt' : j < l.length := by simpa using hlt
      simp [Array.getD, hlt'] at hl
    · have := no_writer (A := stateAt a qs) (ps := qs) (t := t) (fun k o v hk => stateAt_succ hk) (fun k hk => hlast qs k hk) k 0 (fun j o v _ hjk hpj hd => by
        have hoj : l.toArray[j]? = some o := (hget qs hqs j o).2 ⟨v, hpj⟩
        have hlt : j < l.toArray.size := (Array.getElem?_eq_some_iff.1 hoj).1
        have hlt' : j < l.length := by simpa using hlt
        have := (hk j o hoj hd).2 (by omega)
        simp [Array.getD, hlt'] at this)
      rw [Nat.zero_add] at this
      rw [this]
      simp [stateAt]

section
variable {L : List Nat} {ops : Array Oper} {S0 : World → Prop} {S : Nat → Nat → World → Prop} {R : Act → Prop} {a : Act} {o : Oper} {rest : List Oper} {v : Value}
theorem wpPre_nil (h : R a) : wpPre L P ops S0 S R [] a := h
theorem wpPre_skip (he : isEff o = false) (hw : Region.wanted o (yielded ops a.tmps) = false) (hr : wpPre L P ops S0 S R rest (a.put o.dst undef)) : wpPre L P ops S0 S R (o :: rest) a := ⟨undef, .inr ⟨hw, rfl, he⟩, hr⟩
theorem wpPre_pure (hp : isFree L o = true) (hw : Region.wanted o (yielded ops a.tmps) = true) (h : ∀ w, (execOp a.eval o).run P w = .ok (.value v) w) (hr : wpPre L P ops S0 S R rest (a.put o.dst v)) : wpPre L P ops S0 S R (o :: rest) a :=
  ⟨v, .inl ⟨hw, fun w hS => by rw [h w]; exact ⟨rfl, hS⟩, .inl ⟨hp, fun _ _ w hS => by rw [h w]; exact ⟨rfl, hS⟩⟩⟩, hr⟩
theorem wpPre_free (hp : isFree L o = true) (hw : Region.wanted o (yielded ops a.tmps) = true) (h0 : ∀ w, S0 w → (execOp a.eval o).run P w = .ok (.value v) w) (h : ∀ g q w, S g q w → (execOp a.eval o).run P w = .ok (.value v) w)
    (hr : wpPre L P ops S0 S R rest (a.put o.dst v)) : wpPre L P ops S0 S R (o :: rest) a :=
  ⟨v, .inl ⟨hw, fun w hS => by rw [h0 w hS]; exact ⟨rfl, hS⟩, .inl ⟨hp, fun g q w hS => by rw [h g q w hS]; exact ⟨rfl, hS⟩⟩⟩, hr⟩
theorem wpPre_val (hp : isFree L o = false) (he : isEff o = false) (hw : Region.wanted o (yielded ops a.tmps) = true) (h0 : ∀ w, S0 w → (execOp a.eval o).run P w = .ok (.value v) w) (h : ∀ g w, S g 0 w → (execOp a.eval o).run P w = .ok (.value v) w)
    (hr : wpPre L P ops S0 S R rest (a.put o.dst v)) : wpPre L P ops S0 S R (o :: rest) a :=
  ⟨v, .inl ⟨hw, fun w hS => by rw [h0 w hS]; exact ⟨rfl, hS⟩, .inr ⟨hp, he, fun g w hS => by rw [h g w hS]; exact ⟨rfl, hS⟩⟩⟩, hr⟩
theorem wpPre_call {f : FuncId} {args : Array Value} (hp : isFree L o = false) (he : isEff o = false) (hw : Region.wanted o (yielded ops a.tmps) = true) (hf : ∀ w, (execOp a.eval o).run P w = .ok (.enter f args) w)
    (h0 : ∀ w, S0 w → Calls P f args w fun e w' => e = .returned v ∧ S0 w') (h : ∀ g w, S g 0 w → Calls P f args w fun e w' => e = .returned v ∧ S g 0 w')
    (hr : wpPre L P ops S0 S R rest (a.put o.dst v)) : wpPre L P ops S0 S R (o :: rest) a :=
  ⟨v, .inl ⟨hw, fun w hS => by rw [hf w]; exact h0 w hS, .inr ⟨hp, he, fun g w hS => by rw [hf w]; exact h g w hS⟩⟩, hr⟩
end
theorem wpPh_nil {L : List Nat} {ops : Array Oper} {S : Nat → World → Prop} {R : Nat → Act → Prop} {p : Nat} {a : Act} (h : R p a) : wpPh L P ops S R [] p a := h
theorem wpPh_skip {L : List Nat} {ops : Array Oper} {S : Nat → World → Prop} {R : Nat → Act → Prop} {p : Nat} {a : Act} {o : Oper} {rest : List Oper} (he : isEff o = false) (hw : Region.wanted o (yielded ops a.tmps) = false)
    (hr : wpPh L P ops S R rest p (a.put o.dst undef)) : wpPh L P ops S R (o :: rest) p a := ⟨undef, .inr ⟨hw, rfl, he⟩, by rw [if_neg (by rw [he]; simp)]; exact hr⟩
theorem wpPh_pure {L : List Nat} {ops : Array Oper} {S : Nat → World → Prop} {R : Nat → Act → Prop} {p : Nat} {a : Act} {o : Oper} {rest : List Oper} {v : Value} (hp : isFree L o = true) (he : isEff o = false) (hw : Region.wanted o (yielded ops a.tmps) = true)
    (h : ∀ w, (execOp a.eval o).run P w = .ok (.value v) w) (hr : wpPh L P ops S R rest p (a.put o.dst v)) : wpPh L P ops S R (o :: rest) p a :=
  ⟨v, .inl ⟨hw, .inl ⟨hp, fun _ w hS => by rw [h w]; exact ⟨rfl, hS⟩⟩⟩, by rw [if_neg (by rw [he]; simp)]; exact hr⟩
theorem wpPh_free {L : List Nat} {ops : Array Oper} {S : Nat → World → Prop} {R : Nat → Act → Prop} {p : Nat} {a : Act} {o : Oper} {rest : List Oper} {v : Value} (hp : isFree L o = true) (he : isEff o = false) (hw : Region.wanted o (yielded ops a.tmps) = true)
    (h : ∀ q w, S q w → (execOp a.eval o).run P w = .ok (.value v) w) (hr : wpPh L P ops S R rest p (a.put o.dst v)) : wpPh L P ops S R (o :: rest) p a :=
  ⟨v, .inl ⟨hw, .inl ⟨hp, fun q w hS => by rw [h q w hS]; exact ⟨rfl, hS⟩⟩⟩, by rw [if_neg (by rw [he]; simp)]; exact hr⟩
theorem wpPh_val {L : List Nat} {ops : Array Oper} {S : Nat → World → Prop} {R : Nat → Act → Prop} {p : Nat} {a : Act} {o : Oper} {rest : List Oper} {v : Value} (hp : isFree L o = false) (he : isEff o = false) (hw : Region.wanted o (yielded ops a.tmps) = true)
    (h : ∀ w, S p w → (execOp a.eval o).run P w = .ok (.value v) w) (hr : wpPh L P ops S R rest p (a.put o.dst v)) : wpPh L P ops S R (o :: rest) p a :=
  ⟨v, .inl ⟨hw, .inr (.inl ⟨hp, he, fun w hS => by rw [h w hS]; exact ⟨rfl, hS⟩⟩)⟩, by rw [if_neg (by rw [he]; simp)]; exact hr⟩
theorem wpPh_call {L : List Nat} {ops : Array Oper} {S : Nat → World → Prop} {R : Nat → Act → Prop} {p : Nat} {a : Act} {o : Oper} {rest : List Oper} {v : Value} {f : FuncId} {args : Array Value} (hp : isFree L o = false) (he : isEff o = false)
    (hw : Region.wanted o (yielded ops a.tmps) = true) (h0 : ∀ w, (execOp a.eval o).run P w = .ok (.enter f args) w) (h : ∀ w, S p w → Calls P f args w fun e w' => e = .returned v ∧ S p w')
    (hr : wpPh L P ops S R rest p (a.put o.dst v)) : wpPh L P ops S R (o :: rest) p a :=
  ⟨v, .inl ⟨hw, .inr (.inl ⟨hp, he, fun w hS => by rw [h0 w]; exact h w hS⟩)⟩, by rw [if_neg (by rw [he]; simp)]; exact hr⟩
theorem wpPh_store {L : List Nat} {ops : Array Oper} {S : Nat → World → Prop} {R : Nat → Act → Prop} {p : Nat} {a : Act} {o : Oper} {rest : List Oper} (hd : o.dst = none) (he : isEff o = true) (hw : Region.wanted o (yielded ops a.tmps) = true)
    (h : ∀ w, S p w → ∃ w', (execOp a.eval o).run P w = .ok .skip w' ∧ S (p + 1) w') (hr : wpPh L P ops S R rest (p + 1) a) : wpPh L P ops S R (o :: rest) p a :=
  ⟨undef, .inl ⟨hw, .inr (.inr ⟨he, fun w hS => by obtain ⟨w', h1, h2⟩ := h w hS; rw [h1]; exact ⟨rfl, h2⟩⟩)⟩, by rw [if_pos he, hd]; exact hr⟩
theorem wpDet_nil {ops : Array Oper} {R : Act → Prop} {a : Act} (h : R a) : wpDet P ops S R [] a := h
theorem wpDet_skip {ops : Array Oper} {R : Act → Prop} {a : Act} {o : Oper} {rest : List Oper} (hw : Region.wanted o (yielded ops a.tmps) = false)
    (hr : wpDet P ops S R rest (a.put o.dst undef)) : wpDet P ops S R (o :: rest) a := ⟨undef, .inr ⟨hw, rfl⟩, hr⟩
theorem wpDet_val {ops : Array Oper} {R : Act → Prop} {a : Act} {o : Oper} {rest : List Oper} {v : Value} (hw : Region.wanted o (yielded ops a.tmps) = true)
    (h : ∀ w, S w → (execOp a.eval o).run P w = .ok (.value v) w) (hr : wpDet P ops S R rest (a.put o.dst v)) : wpDet P ops S R (o :: rest) a :=
  ⟨v, .inl ⟨hw, fun w hS => by rw [h w hS]; exact ⟨rfl, hS⟩⟩, hr⟩
theorem wpDet_call {ops : Array Oper} {R : Act → Prop} {a : Act} {o : Oper} {rest : List Oper} {v : Value} {f : FuncId} {args : Array Value} (hw : Region.wanted o (yielded ops a.tmps) = true)
    (h0 : ∀ w, (execOp a.eval o).run P w = .ok (.enter f args) w) (h : ∀ w, S w → Calls P f args w fun e w' => e = .returned v ∧ S w')
    (hr : wpDet P ops S R rest (a.put o.dst v)) : wpDet P ops S R (o :: rest) a :=
  ⟨v, .inl ⟨hw, fun w hS => by rw [h0 w]; exact h w hS⟩, hr⟩
end
end Go.Proofs.Ytbeojfhakmbacaa
