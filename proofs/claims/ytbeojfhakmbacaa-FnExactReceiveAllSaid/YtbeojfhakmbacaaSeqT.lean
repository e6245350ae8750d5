/- A statement whose order Go leaves open, walked in one order up to a tail that comes last in every order; the tail may change what the others read. -/
import Derived.Test.YtbeojfhakmbacaaSplit
namespace Go.Proofs.Ytbeojfhakmbacaa
open Go

section
variable {P : Program} {ops : Array Oper} {eff : Oper → Bool} {ord : List Nat} {a0 : Act}

theorem cnt_pos {listed : Array Bool} {j : Nat} (h : listed.getD j true = false) : 1 ≤ listed.toList.count false := by
  have hlt : j < listed.size := by
    rcases Nat.lt_or_ge j listed.size with h1 | h1
    · exact h1
    · simp [Array.getD, Nat.not_lt.2 h1] at h
  have hv : listed[j] = false := by simpa [Array.getD, hlt] using h
  have hm : false ∈ listed.toList := by rw [← hv]; exact Array.mem_toList_iff.2 (Array.getElem_mem hlt)
  exact List.count_pos_iff.2 hm

theorem tail_any2 {ops : Array Oper} {Q : Exit → Act → World → Prop} {m : Nat} (hdn : ∀ (j : Nat) (oj : Oper), ops[j]? = some oj → ∀ e ∈ oj.after, Region.binds .any e = true → e.on < max m j)
    (hal : ∀ listed : Array Bool, listed.size = ops.size → Region.ready .any ops listed = [] → ∀ j, listed.getD j true = true) (ht : tailOk ops m = true) :
    ∀ (d fuel k : Nat) (listed : Array Bool) (a : Act) (w : World), k + d = ops.size → d ≤ fuel → m ≤ k → listed.size = ops.size →
      (∀ j, j < ops.size → (listed.getD j true = true ↔ j < k)) → wpList P ops Q (ops.toList.drop k) a w → wpAny P .any ops Q fuel listed a w := by
  have key : ∀ (k i : Nat) (listed : Array Bool), m ≤ k → listed.size = ops.size → (∀ j, j < ops.size → (listed.getD j true = true ↔ j < k)) → i ∈ Region.ready .any ops listed → i = k := by
    intro k i listed hm hs hl hi
    obtain ⟨hu, o, ho, he⟩ := ready_spec hi
    have hlt : i < ops.size := (Array.getElem?_eq_some_iff.1 ho).1
    have hki : ¬ i < k := fun h => by rw [(hl i hlt).2 h] at hu; cases hu
    rcases Nat.lt_or_ge k i with h | h
    · have h1 := below_listed (ops := ops) (listed := listed) (fun j oj hj hlj e hem hb => by
        have hjs : j < ops.size := (Array.getElem?_eq_some_iff.1 hj).1
        have hjk := (hl j hjs).1 hlj
        have h6 := hdn j oj hj e hem hb
        rw [getD_both (by omega)]
        exact (hl e.on (by omega)).2 (by omega)) hs ops.size i (fun oj hoj => by rw [ho] at hoj; cases hoj; exact he) k (tailOk_spec ht hlt (by omega) h)
      rw [getD_both (by omega)] at h1
      have := (hl k (by omega)).1 h1
      omega
    · omega
  have fin : ∀ (k : Nat) (listed : Array Bool) (a : Act) (w : World), k ≤ ops.size → listed.size = ops.size → (∀ j, j < ops.size → (listed.getD j true = true ↔ j < k)) →
      wpList P ops Q (ops.toList.drop k) a w → Region.ready .any ops listed = [] → Q .normal a w := by
    intro k listed a w hk hs hl hw hr
    have hall := hal listed hs hr
    have : k = ops.size := by
      rcases Nat.lt_or_ge k ops.size with h | h
      · have := (hl k h).1 (hall k)
        omega
      · omega
    subst this
    rw [List.drop_of_length_le (by simp)] at hw
    exact hw
  intro d
  induction d with
  | zero =>
    intro fuel k listed a w hk hf hm hs hl hw
    have hr : Region.ready .any ops listed = [] := by
      rcases hr : Region.ready .any ops listed with _ | ⟨i, r⟩
      · rfl
      · have h1 := key k i listed hm hs hl (by rw [hr]; simp)
        obtain ⟨_, o, ho, _⟩ := ready_spec (ops := ops) (listed := listed) (i := i) (by rw [hr]; simp)
        have := (Array.getElem?_eq_some_iff.1 ho).1
        omega
    have hq := fin k listed a w (by omega) hs hl hw hr
    cases fuel with
    | zero => exact ⟨hr, hq⟩
    | succ f => exact ⟨fun _ => hq, fun i hi => by rw [hr] at hi; cases hi⟩
  | succ d ih =>
    intro fuel k listed a w hk hf hm hs hl hw
    cases fuel with
    | zero => omega
    | succ f =>
      refine ⟨fun hr => fin k listed a w (by omega) hs hl hw hr, fun i hi => ?_⟩
      obtain rfl := key k i listed hm hs hl hi
      have hlt : i < ops.size := by omega
      have hlt' : i < ops.toList.length := by simpa using hlt
      rw [List.drop_eq_getElem_cons hlt'] at hw
      have hnext : ∀ (a' : Act) (w' : World), wpList P ops Q (ops.toList.drop (i + 1)) a' w' → wpAny P .any ops Q f (listed.setIfInBounds i true) a' w' := fun a' w' h =>
        ih f (i + 1) _ a' w' (by omega) (by omega) (by omega) (by simpa using hs) (fun j hj => by
          rw [getD_set (by omega)]
          by_cases hji : j = i
          · subst hji; simp
          · rw [if_neg hji, hl j hj]; omega) h
      unfold wpOp
      rw [Array.getElem?_eq_getElem hlt]
      unfold wpList at hw
      rw [Array.getElem_toList] at hw
      simp only []
      split
      · rename_i h1
        rw [if_pos h1] at hw
        exact hw.imp (Oper.wp_mono hnext) id
      · rename_i h1
        rw [if_neg h1] at hw
        exact hnext _ _ hw

theorem seq_any_tail (F : SeqFacts ops eff ord) {Q : Exit → Act → World → Prop} {m : Nat} (hdn : ∀ (j : Nat) (oj : Oper), ops[j]? = some oj → ∀ e ∈ oj.after, Region.binds .any e = true → e.on < max m j) (ht : tailOk ops m = true) (hm : m < ops.size) (hord : ∀ q j : Nat, ord[q]? = some j → (q < m ↔ j < m)) :
    ∀ (fuel : Nat) (ps : List (Oper × Value)) (rest : List Oper) (S : World → Prop) (listed : Array Bool) (a : Act) (w : World), Mid P ops eff ord a0 ps S listed a → ps.length + rest.length = m →
      (∀ q : Nat, ps.length ≤ q → q < m → ((ord[q]?).bind (ops[·]?)) = rest[q - ps.length]?) → S w → wpSeq P ops eff (fun a' w' => wpList P ops Q (ops.toList.drop m) a' w') rest S (stateAt a0 ps ps.length) w → listed.toList.count false + ops.size ≤ fuel →
      wpAny P .any ops Q fuel listed a w := by
  have adv : ∀ (rest : List Oper) (ps : List (Oper × Value)) (S : World → Prop) (listed : Array Bool) (a : Act) (w : World), Mid P ops eff ord a0 ps S listed a → ps.length + rest.length = m →
      (∀ q : Nat, ps.length ≤ q → q < m → ((ord[q]?).bind (ops[·]?)) = rest[q - ps.length]?) → wpSeq P ops eff (fun a' w' => wpList P ops Q (ops.toList.drop m) a' w') rest S (stateAt a0 ps ps.length) w →
      ∃ ps' rest', Mid P ops eff ord a0 ps' S listed a ∧ ps'.length + rest'.length = m ∧ (∀ q : Nat, ps'.length ≤ q → q < m → ((ord[q]?).bind (ops[·]?)) = rest'[q - ps'.length]?) ∧ wpSeq P ops eff (fun a' w' => wpList P ops Q (ops.toList.drop m) a' w') rest' S (stateAt a0 ps' ps'.length) w ∧ (rest' = [] ∨ ∃ o r, rest' = o :: r ∧ eff o = true) := by
    intro rest
    induction rest with
    | nil => intro ps S listed a w M hl hr hw; exact ⟨ps, [], M, hl, hr, hw, .inl rfl⟩
    | cons o rest ih =>
      intro ps S listed a w M hl hr hw
      simp only [List.length_cons] at hl
      cases hef : eff o with
      | true => exact ⟨ps, o :: rest, M, by simpa using hl, hr, hw, .inr ⟨o, rest, rfl, hef⟩⟩
      | false =>
        rcases hw with ⟨_, v, hst, hw⟩ | ⟨h, _⟩
        · have h0 := hr ps.length (Nat.le_refl _) (by omega)
          rw [Nat.sub_self] at h0
          simp only [List.getElem?_cons_zero] at h0
          obtain ⟨j, hj, ho⟩ := Option.bind_eq_some_iff.1 h0
          refine ih (ps ++ [(o, v)]) S listed a w (mid_more F M hj ho hef hst) (by simp only [List.length_append, List.length_singleton]; omega) (fun q hq hqm => ?_) ?_
          · simp only [List.length_append, List.length_singleton] at hq ⊢
            rw [hr q (by omega) hqm, show q - ps.length = (q - (ps.length + 1)) + 1 from by omega, List.getElem?_cons_succ]
          · rw [List.length_append, List.length_singleton, stateAt_last]
            exact hw
        · rw [hef] at h; cases h
  have last : ∀ {ps : List (Oper × Value)} {S : World → Prop} {listed : Array Bool} {a : Act}, Mid P ops eff ord a0 ps S listed a → ps.length ≤ m → listed.getD m true = false := by
    intro ps S listed a M hl
    obtain ⟨q, hq⟩ := List.getElem?_of_mem (F.mem m hm)
    have h1 := hord q m hq
    exact M.ahead q m (by omega) hq
  intro fuel
  induction fuel with
  | zero => intro ps rest S listed a w M hl hr hS hw hc; omega
  | succ fuel ih =>
    intro ps0 rest0 S listed a w M0 hl0 hr0 hS hw0 hc
    obtain ⟨ps, rest, M, hl, hr, hw, hnext⟩ := adv rest0 ps0 S listed a w M0 hl0 hr0 hw0
    have hmu := last M (by omega)
    refine ⟨fun hrd => ?_, fun j hjr => ?_⟩
    · have := seq_listed F M.size hrd m
      rw [hmu] at this; cases this
    obtain ⟨hu, o, ho, he⟩ := ready_spec hjr
    have hjl : j < ops.size := (Array.getElem?_eq_some_iff.1 ho).1
    obtain ⟨q, hq⟩ := List.getElem?_of_mem (F.mem j hjl)
    have hc1 := cnt_pos hu
    have hc' : (listed.setIfInBounds j true).toList.count false + ops.size ≤ fuel := by
      have := count_set (n := fuel - ops.size) hu (by omega)
      omega
    rcases Nat.lt_or_ge q ps.length with hlt | hge
    · unfold wpOp
      simp only [ho]
      have hp : ∃ x, ps[q]? = some x := ⟨_, List.getElem?_eq_getElem hlt⟩
      obtain ⟨⟨o', v⟩, hp⟩ := hp
      obtain ⟨j', hj', ho'⟩ := M.pss q o' v hp
      rw [hq] at hj'; cases hj'
      rw [ho] at ho'; cases ho'
      have hef : eff o = false := by
        cases hef : eff o with
        | false => rfl
        | true =>
          have := M.done q o v j hp hq hef
          rw [hu] at this; cases this
      have M' := mid_put F M hp hq hu he
      have hst := M.quiet q o v hp hef
      obtain ⟨e1, e2⟩ := mid_same F M (Nat.le_of_lt hlt) hq ho hu he
      rcases hst with ⟨h1, h2⟩ | ⟨h1, rfl⟩
      · rw [if_pos (by rw [e2]; exact h1)]
        refine .inl ?_
        unfold Oper.wp
        rw [e1, h2 w hS]
        exact ih ps rest S _ _ w M' hl hr hS hw hc'
      · rw [if_neg (by rw [e2, h1]; simp)]
        exact ih ps rest S _ _ w M' hl hr hS hw hc'
    · rcases Nat.lt_or_ge j m with hjm | hjm
      · have hqm : q < m := (hord q j hq).2 hjm
        unfold wpOp
        simp only [ho]
        have hql : q < ord.length := (List.getElem?_eq_some_iff.1 hq).1
        rcases hnext with rfl | ⟨o', r, rfl, hef⟩
        · have h0 := hr q hge hqm
          rw [hq] at h0
          simp [ho] at h0
        · simp only [List.length_cons] at hl
          have h0 := hr ps.length (Nat.le_refl _) (by omega)
          rw [Nat.sub_self] at h0
          simp only [List.getElem?_cons_zero] at h0
          obtain ⟨i, hi, hoi⟩ := Option.bind_eq_some_iff.1 h0
          have hqe : q = ps.length := by
            rcases Nat.lt_or_ge ps.length q with h | h
            · exfalso
              obtain ⟨j', oj', hj', hoj', _, _, hpair⟩ := F.at_ q hql
              rw [hq] at hj'; cases hj'
              obtain ⟨i', oi', hi', hoi', _, _, hbl⟩ := hpair ps.length h
              rw [hi] at hi'; cases hi'
              rw [hoi] at hoi'; cases hoi'
              have h5 := below_listed M.down M.size ops.size j (fun oj hoj => by rw [ho] at hoj; cases hoj; exact he) i (hbl hef)
              have hil : i < listed.size := by rw [M.size]; exact (Array.getElem?_eq_some_iff.1 hoi).1
              rw [getD_both hil, M.ahead ps.length i (Nat.le_refl _) hi] at h5
              cases h5
            · omega
          subst hqe
          rw [hq] at hi; cases hi
          rw [ho] at hoi; cases hoi
          rcases hw with ⟨h, _⟩ | ⟨_, hwant, hdo⟩
          · rw [hef] at h; cases h
          · obtain ⟨e1, e2⟩ := mid_same F M (Nat.le_refl _) hq ho hu he
            rw [if_pos (by rw [e2]; exact hwant)]
            refine .inl ?_
            rw [← e1] at hdo
            refine hdo.wp fun v w' ⟨S', hS', himp, hw'⟩ => ?_
            refine ih (ps ++ [(o, v)]) r S' _ _ w' (mid_deed F M hq ho hef he himp) (by simp only [List.length_append, List.length_singleton]; omega) (fun k hk hkm => ?_) hS' ?_ hc'
            · simp only [List.length_append, List.length_singleton] at hk ⊢
              rw [hr k (by omega) hkm, show k - ps.length = (k - (ps.length + 1)) + 1 from by omega, List.getElem?_cons_succ]
            · rw [List.length_append, List.length_singleton, stateAt_last]
              exact hw'
      · -- the tail: all ahead of it is listed
        have hall : ∀ i, i < m → listed.getD i true = true := fun i hi => by
          have h5 := below_listed M.down M.size ops.size j (fun oj hoj => by rw [ho] at hoj; cases hoj; exact he) i (tailOk_spec ht hjl hjm (by omega))
          rw [← getD_both (by rw [M.size]; omega)]
          exact h5
        have hpm : ps.length = m := by
          rcases Nat.lt_or_ge ps.length m with h | h
          · exfalso
            have hlo : ps.length < ord.length := by rw [F.len]; omega
            have hk := List.getElem?_eq_getElem hlo
            have h1 := M.ahead ps.length _ (Nat.le_refl _) hk
            rw [hall _ ((hord _ _ hk).1 h)] at h1
            cases h1
          · omega
        have hrest : rest = [] := List.eq_nil_of_length_eq_zero (by omega)
        subst hrest
        have ha : a = stateAt a0 ps ps.length := by
          obtain ⟨ta, da⟩ := a
          have e1 : ta = (stateAt a0 ps ps.length).tmps := Array.ext_getElem? fun t => M.slots t ps.length (Nat.le_refl _) fun p o v j hp hj hd => by
            have hpl := (List.getElem?_eq_some_iff.1 hp).1
            simp only [hall j ((hord p j hj).1 (by omega)), true_iff]
            exact hpl
          have e2 : da = (stateAt a0 ps ps.length).defers := M.defers.trans (stateAt_facts _ _ _).2.symm
          rw [e1, e2]
        have hw2 : wpList P ops Q (ops.toList.drop m) a w := by rw [ha]; exact hw
        have htl := tail_any2 (P := P) (Q := Q) hdn (fun L hs hr => seq_listed F hs hr) ht (ops.size - m) (fuel + 1) m listed a w (by omega) (by omega) (Nat.le_refl _) M.size (fun i hi => ⟨(fun h => by
          rcases Nat.lt_or_ge i m with h1 | h1
          · exact h1
          · exfalso
            obtain ⟨q2, hq2⟩ := List.getElem?_of_mem (F.mem i hi)
            have h2 := hord q2 i hq2
            have h3 := M.ahead q2 i (by omega) hq2
            rw [h] at h3; cases h3), (fun h => hall i h)⟩) hw2
        exact htl.2 j hjr

/-- The order is that of the walk, then the tail. -/
def tailChk (ops : Array Oper) (eff : Oper → Bool) (ord : List Nat) (m : Nat) : Bool :=
  seqChk ops eff ord && ((List.range ops.size).all fun j => match ops[j]? with | none => true | some oj => oj.after.toList.all fun e => !Region.binds .any e || decide (e.on < max m j)) && tailOk ops m && decide (m < ops.size) && (List.range ord.length).all fun q => match ord[q]? with | none => true | some j => decide (q < m) == decide (j < m)

theorem all_seq_tail {a : Act} {w : World} {Q : Exit → Act → World → Prop} (ord : List Nat) (m : Nat) (S : World → Prop) {ops : Array Oper} (hok : tailChk ops deed ord m = true) (hS : S w)
    (h : wpSeq P ops deed (fun a' w' => wpList P ops Q (ops.toList.drop m) a' w') (byNum ops.toList (ord.take m)) S a w) : RegAll P ops Q a w := fun L hL => by
  unfold tailChk at hok
  simp only [Bool.and_eq_true, decide_eq_true_eq] at hok
  obtain ⟨⟨⟨⟨h1, h2⟩, h3⟩, h4⟩, h5⟩ := hok
  have F := seqChk_spec h1
  have hdn : ∀ (j : Nat) (oj : Oper), ops[j]? = some oj → ∀ e ∈ oj.after, Region.binds .any e = true → e.on < max m j := fun j oj hj e he hb => by
    have hlt : j < ops.size := (Array.getElem?_eq_some_iff.1 hj).1
    have h6 := List.all_eq_true.1 h2 j (by simpa using hlt)
    rw [hj] at h6
    have h7 := List.all_eq_true.1 h6 e (by simpa using he)
    simpa [hb] using h7
  have hord : ∀ q j : Nat, ord[q]? = some j → (q < m ↔ j < m) := fun q j hq => by
    have hql := (List.getElem?_eq_some_iff.1 hq).1
    have h6 := List.all_eq_true.1 h5 q (by simpa using hql)
    rw [hq] at h6
    simpa using h6
  have hmem : ∀ i ∈ ord, i < ops.toList.length := fun i hi => by
    obtain ⟨q, hq⟩ := List.getElem?_of_mem hi
    obtain ⟨j, oj, hj, hoj, _⟩ := F.at_ q (List.getElem?_eq_some_iff.1 hq).1
    rw [hq] at hj; cases hj
    simpa using (Array.getElem?_eq_some_iff.1 hoj).1
  have hbn := byNum_at (l := ops.toList) (ord.take m) (fun i hi => hmem i (List.mem_of_mem_take hi))
  have hlm : (ord.take m).length = m := by rw [List.length_take, F.len]; omega
  have hbl : (byNum ops.toList (ord.take m)).length = m := by
    have key : ∀ l : List Nat, (∀ i ∈ l, i < ops.toList.length) → (byNum ops.toList l).length = l.length := by
      intro l
      induction l with
      | nil => intro _; rfl
      | cons i r ih =>
        intro hh
        have e : ops.toList[i]? = some (ops.toList[i]'(hh i List.mem_cons_self)) := List.getElem?_eq_getElem _
        unfold byNum
        rw [e]
        simp only [List.length_cons]
        rw [ih fun j hj => hh j (List.mem_cons_of_mem _ hj)]
    rw [key _ (fun i hi => hmem i (List.mem_of_mem_take hi)), hlm]
  refine all_of_any (ops.size + ops.size) L _ a w (seq_any_tail (a0 := a) F hdn h3 h4 hord _ [] (byNum ops.toList (ord.take m)) S _ a _ ?_ (by simpa using hbl) (fun q _ hqm => ?_) hS (by simpa [stateAt] using h) ?_) hL
  · refine ⟨by simp, by simp, fun j oj hj hl => ?_, rfl, rfl, fun q j _ hj => ?_, by simp, by simp, by simp, fun t k hk _ => ?_⟩
    · have hlt : j < ops.size := (Array.getElem?_eq_some_iff.1 hj).1
      simp [Array.getD, hlt] at hl
    · have hjl := hmem j (List.mem_of_getElem? hj)
      have hjl2 : j < ops.size := by simpa using hjl
      simp [Array.getD, hjl2]
    · simp [stateAt]
  · have h6 := hbn q
    rw [List.getElem?_take, if_pos hqm] at h6
    simpa using h6
  · have : (Array.replicate ops.size false).toList.count false ≤ ops.size := Nat.le_trans List.count_le_length (by simp)
    omega
/-- The same, its operations as they stand in the text. -/
theorem all_seq_tail_core {a : Act} {w : World} {Q : Exit → Act → World → Prop} (ord : List Nat) (m : Nat) (S : World → Prop) {l : List Oper} {ops' : Array Oper} (hc : Core l.toArray ops') (hok : tailChk ops' deed ord m = true) (hS : S w)
    (h : wpSeq P l.toArray deed (fun a' w' => wpList P l.toArray Q (l.drop m) a' w') (byNum l (ord.take m)) S a w) : RegAll P ops' Q a w :=
  all_seq_tail ord m S hok hS (by
    have hmap : ops'.toList.map strip = l.map strip := List.ext_getElem? fun k => by
      have := hc k
      simpa using this
    have e := core_wpList (P := P) (Q := Q) hc (l.drop m) (ops'.toList.drop m) (by rw [List.map_drop, List.map_drop, hmap])
    have h1 := core_wpSeq (P := P) hc deed_strip _ _ S a w (by have := byNum_core hc (ord.take m); simpa using this) h
    rw [e]
    exact h1)
end
end Go.Proofs.Ytbeojfhakmbacaa
