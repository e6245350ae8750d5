/- A statement whose order Go leaves open: moves that nothing but the end waits for may be taken first. -/
import Derived.Test.YtbeojfhakmbacaaRegion
namespace Go.Proofs.Ytbeojfhakmbacaa
open Go

section
variable {P : Program} {S : World → Prop}

def OnlyNormal (Q : Exit → Act → World → Prop) (e : Exit) (a : Act) (w : World) : Prop := e = .normal ∧ Q .normal a w
def edgeOn (i : Nat) (o : Oper) : Oper := { o with after := o.after.push ⟨i, .data⟩ }
/-- All operations behind number i, but those of fs, wait for it. -/
def early (fs : List Nat) (i : Nat) (ops : Array Oper) : Array Oper := ops.mapIdx fun j o => if i < j ∧ fs.contains j = false then edgeOn i o else o
def strip (o : Oper) : Oper := { o with after := #[] }

theorem early_size (fs : List Nat) (i : Nat) (ops : Array Oper) : (early fs i ops).size = ops.size := by simp [early]
theorem early_at (fs : List Nat) (i : Nat) (ops : Array Oper) (j : Nat) : (early fs i ops)[j]? = (ops[j]?).map fun o => if i < j ∧ fs.contains j = false then edgeOn i o else o := by simp [early]
theorem strip_edge (i : Nat) (o : Oper) : strip (edgeOn i o) = strip o := rfl
theorem strip_op {o o' : Oper} (h : strip o = strip o') : o.dst = o'.dst ∧ o.op = o'.op ∧ o.type = o'.type ∧ o.pos = o'.pos ∧ o.guard = o'.guard := by
  obtain ⟨d, op, t, p, af, g⟩ := o
  obtain ⟨d', op', t', p', af', g'⟩ := o'
  simp only [strip, Oper.mk.injEq] at h
  exact ⟨h.1, h.2.1, h.2.2.1, h.2.2.2.1, h.2.2.2.2.2⟩
theorem exec_strip {o o' : Oper} (h : strip o = strip o') (ρ : Operand → Value) : execOp ρ o = execOp ρ o' := by
  obtain ⟨d, op, t, p, af, g⟩ := o
  obtain ⟨d', op', t', p', af', g'⟩ := o'
  simp only [strip, Oper.mk.injEq] at h
  obtain ⟨rfl, rfl, rfl, rfl, _, rfl⟩ := h
  rfl
theorem upon_strip {o o' : Oper} (h : strip o = strip o') (a : Act) (K : Act → World → Prop) (Q : Exit → Act → World → Prop) (r : Result Next) : o.upon P a K Q r = o'.upon P a K Q r := by
  obtain ⟨d, op, t, p, af, g⟩ := o
  obtain ⟨d', op', t', p', af', g'⟩ := o'
  simp only [strip, Oper.mk.injEq] at h
  obtain ⟨rfl, rfl, rfl, rfl, _, rfl⟩ := h
  cases r with
  | ok n w => cases n <;> rfl
  | halt x w => cases x <;> rfl
theorem wp_strip {o o' : Oper} (h : strip o = strip o') (a : Act) (w : World) (K : Act → World → Prop) (Q : Exit → Act → World → Prop) : o.wp P a w K Q = o'.wp P a w K Q := by
  unfold Oper.wp
  rw [exec_strip h, upon_strip h]
theorem asks_strip {o o' : Oper} (h : strip o = strip o') (a : Act) (w : World) : o.asks P a w = o'.asks P a w := by
  unfold Oper.asks
  rw [exec_strip h]
/-- Two lists of operations that differ in their edges alone. -/
def Core (ops ops' : Array Oper) : Prop := ∀ j : Nat, (ops'[j]?).map strip = (ops[j]?).map strip
theorem Core.refl (ops : Array Oper) : Core ops ops := fun _ => rfl
theorem Core.trans {a b c : Array Oper} (h : Core a b) (h' : Core b c) : Core a c := fun j => (h' j).trans (h j)
theorem early_core (fs : List Nat) (i : Nat) (ops : Array Oper) : Core ops (early fs i ops) := fun j => by
  rw [early_at, Option.map_map]
  cases ops[j]? with
  | none => rfl
  | some o => simp only [Option.map_some, Function.comp]; split <;> rfl
theorem core_yield {ops ops' : Array Oper} (h : Core ops ops') (tmps : Array Value) : yielded ops' tmps = yielded ops tmps := by
  funext j
  have hj := h j
  unfold yielded
  have e : (ops'[j]?).bind (·.dst) = (ops[j]?).bind (·.dst) := by
    cases h1 : ops'[j]? <;> cases h2 : ops[j]? <;> rw [h1, h2] at hj <;> simp at hj
    simp [(strip_op hj).1]
  rw [e]
theorem wanted_strip {o o' : Oper} (h : strip o = strip o') (y : Nat → Option Bool) : Region.wanted o y = Region.wanted o' y := by
  unfold Region.wanted
  rw [(strip_op h).2.2.2.2]
theorem core_wpList {ops ops' : Array Oper} (h : Core ops ops') {Q : Exit → Act → World → Prop} : ∀ (l l' : List Oper), l'.map strip = l.map strip → wpList P ops' Q l' = wpList P ops Q l
  | [], [], _ => rfl
  | [], _ :: _, e => by simp at e
  | _ :: _, [], e => by simp at e
  | o :: l, o' :: l', e => by
    simp only [List.map_cons, List.cons.injEq] at e
    have ih := core_wpList (Q := Q) h l l' e.2
    funext a w
    unfold wpList
    rw [core_yield h, wanted_strip e.1, ih, wp_strip e.1, asks_strip e.1, (strip_op e.1).1]
theorem core_lands {ops ops' : Array Oper} (h : Core ops ops') {o o' : Oper} (e : strip o' = strip o) {v : Value} {a : Act} (hl : LandsAt P ops S o v a) : LandsAt P ops' S o' v a := by
  unfold LandsAt at *
  rw [core_yield h, wanted_strip e, exec_strip e]
  exact hl
theorem core_wpDet {ops ops' : Array Oper} (h : Core ops ops') {R : Act → Prop} : ∀ (l l' : List Oper) (a : Act), l'.map strip = l.map strip → wpDet P ops S R l a → wpDet P ops' S R l' a
  | [], [], _, _, hd => hd
  | [], _ :: _, _, e, _ => by simp at e
  | _ :: _, [], _, e, _ => by simp at e
  | o :: l, o' :: l', a, e, ⟨v, hv, hd⟩ => by
    simp only [List.map_cons, List.cons.injEq] at e
    refine ⟨v, core_lands h e.1 hv, ?_⟩
    rw [(strip_op e.1).1]
    exact core_wpDet h l l' _ e.2 hd

theorem wp_shift {Q : Exit → Act → World → Prop} {o o' : Oper} (ho : strip o' = strip o) {a b : Act} {w : World} {K K' : Act → World → Prop} (he : execOp b.eval o = execOp a.eval o) (hd : b.defers = a.defers)
    (hK : ∀ u w', K' (b.put o.dst u) w' → K (a.put o.dst u) w')
    (hK2 : ∀ d w', K' ({ b with defers := d :: b.defers }.put o.dst undef) w' → K ({ a with defers := d :: a.defers }.put o.dst undef) w')
    (h : o'.wp P b w K' (OnlyNormal Q)) : o.wp P a w K (OnlyNormal Q) := by
  rw [wp_strip ho] at h
  unfold Oper.wp at *
  rw [he] at h
  generalize (execOp a.eval o).run P w = r at *
  cases r with
  | ok n w' =>
    cases n <;> simp only [Oper.upon] at h ⊢
    case value v => exact hK _ _ h
    case skip => exact hK _ _ h
    case defer d => exact hK2 _ _ h
    case enter f args =>
      refine h.mono fun e w'' he => ?_
      cases e with
      | returned v => exact hK _ _ he
      | panicked c => exact absurd he.1 (by simp)
      | outgrown => exact he
    case row row args => exact Rows.mono h fun v w'' he => hK _ _ he
  | halt x w' =>
    cases x <;> simp only [Oper.upon] at h ⊢
    exact absurd h.1 (by simp)

/-- What number i is: a move that waits for nothing. -/
structure Floats (ops : Array Oper) (fs : List Nat) (i : Nat) (o : Oper) (x : Operand) : Prop where
  at_ : ops[i]? = some o
  op : o.op = .move x
  guard : o.guard = none
  after : o.after = #[]
  inn : fs.contains i = true

section
variable {ops : Array Oper} {fs : List Nat} {i : Nat} {oi : Oper} {x : Operand} {Q : Exit → Act → World → Prop}

theorem ready_early (h : Floats ops fs i oi x) {listed : Array Bool} (hs : listed.size = ops.size) {j : Nat} (hj : j ∈ Region.ready .any ops listed) (hji : j ≠ i) : j ∈ Region.ready .any (early fs i ops) (listed.setIfInBounds i true) := by
  have hlt : i < listed.size := by rw [hs]; exact (Array.getElem?_eq_some_iff.1 h.at_).1
  unfold Region.ready at *
  simp only [List.mem_filter, List.mem_range, Bool.and_eq_true, Bool.not_eq_true', early_size] at *
  obtain ⟨h1, h2, h3⟩ := hj
  refine ⟨h1, by rw [getD_set hlt, if_neg hji]; exact h2, ?_⟩
  rw [early_at]
  cases ho : ops[j]? with
  | none => rw [ho] at h3; simp at h3
  | some o =>
    rw [ho] at h3
    simp only [Option.map_some, Option.getD_some] at h3 ⊢
    have key : ∀ e ∈ o.after, (!Region.binds .any e || (listed.setIfInBounds i true).getD e.on false) = true := by
      intro e he
      rw [Array.all_eq_true_iff_forall_mem] at h3
      have := h3 e he
      simp only [Bool.or_eq_true] at this ⊢
      refine this.imp id fun h4 => ?_
      rw [getD_set hlt]
      split
      · rfl
      · exact h4
    rw [Array.all_eq_true_iff_forall_mem]
    intro e he
    split at he
    · simp only [edgeOn, Array.mem_push] at he
      rcases he with he | rfl
      · exact key e he
      · simp only [Bool.or_eq_true]
        right
        rw [getD_set hlt, if_pos rfl]
    · exact key e he
theorem ready_late (h : Floats ops fs i oi x) {listed : Array Bool} {j : Nat} (hj : j ∈ Region.ready .any (early fs i ops) listed) : j ∈ Region.ready .any ops listed := by
  unfold Region.ready at *
  simp only [List.mem_filter, List.mem_range, Bool.and_eq_true, Bool.not_eq_true', early_size] at *
  obtain ⟨h1, h2, h3⟩ := hj
  refine ⟨h1, h2, ?_⟩
  rw [early_at] at h3
  cases ho : ops[j]? with
  | none => rw [ho] at h3; simp at h3
  | some o =>
    rw [ho] at h3
    simp only [Option.map_some, Option.getD_some] at h3 ⊢
    rw [Array.all_eq_true_iff_forall_mem] at h3 ⊢
    intro e he
    refine h3 e ?_
    split
    · simp [edgeOn, he]
    · exact he
theorem ready_self (h : Floats ops fs i oi x) {listed : Array Bool} (hu : listed.getD i true = false) : i ∈ Region.ready .any (early fs i ops) listed := by
  have hlt : i < ops.size := (Array.getElem?_eq_some_iff.1 h.at_).1
  unfold Region.ready
  simp only [List.mem_filter, List.mem_range, Bool.and_eq_true, Bool.not_eq_true', early_size]
  refine ⟨hlt, hu, ?_⟩
  rw [early_at, h.at_]
  simp [h.after]
theorem ready_eq (h : Floats ops fs i oi x) {listed : Array Bool} (hs : listed.size = ops.size) (hl : listed.getD i true = true) {j : Nat} : j ∈ Region.ready .any ops listed ↔ j ∈ Region.ready .any (early fs i ops) listed := by
  refine ⟨fun hj => ?_, ready_late h⟩
  have hlt : i < listed.size := by rw [hs]; exact (Array.getElem?_eq_some_iff.1 h.at_).1
  have hji : j ≠ i := by
    rintro rfl
    have := (ready_spec hj).1
    rw [hl] at this; cases this
  have h2 := ready_early h hs hj hji
  have e : listed.setIfInBounds i true = listed := by
    apply Array.ext_getElem?
    intro k
    rw [Array.getElem?_setIfInBounds]
    split
    · rename_i hk; subst hk
      have : listed[i] = true := by simpa [Array.getD, hlt] using hl
      simp [hlt, this]
    · rfl
  rwa [e] at h2

theorem late_any (h : Floats ops fs i oi x) : ∀ (fuel : Nat) (listed : Array Bool) (a : Act) (w : World), listed.size = ops.size → listed.getD i true = true →
    wpAny P .any (early fs i ops) Q fuel listed a w → wpAny P .any ops Q fuel listed a w := by
  have nil : ∀ (listed : Array Bool), listed.size = ops.size → listed.getD i true = true → (Region.ready .any ops listed = [] ↔ Region.ready .any (early fs i ops) listed = []) := by
    intro listed hs hl
    simp only [List.eq_nil_iff_forall_not_mem, ready_eq h hs hl]
  intro fuel
  induction fuel with
  | zero => intro listed a w hs hl hw; exact ⟨(nil _ hs hl).2 hw.1, hw.2⟩
  | succ fuel ih =>
    intro listed a w hs hl hw
    refine ⟨fun hr => hw.1 ((nil _ hs hl).1 hr), fun j hj => ?_⟩
    have h2 := hw.2 j ((ready_eq h hs hl).1 hj)
    obtain ⟨_, o, ho, _⟩ := ready_spec hj
    have hc := early_core fs i ops j
    have ho' : ∃ o', (early fs i ops)[j]? = some o' ∧ strip o' = strip o := by
      rw [ho] at hc
      cases h3 : (early fs i ops)[j]? with
      | none => rw [h3] at hc; simp at hc
      | some o' => rw [h3] at hc; exact ⟨o', rfl, by simpa using hc⟩
    obtain ⟨o', ho', hst⟩ := ho'
    have hnext : ∀ a' w', wpAny P .any (early fs i ops) Q fuel (listed.setIfInBounds j true) a' w' → wpAny P .any ops Q fuel (listed.setIfInBounds j true) a' w' := fun a' w' hn =>
      ih _ a' w' (by simpa using hs) (by
        have hltj : j < listed.size := by rw [hs]; exact (Array.getElem?_eq_some_iff.1 ho).1
        rw [getD_set hltj]
        split
        · rfl
        · exact hl) hn
    unfold wpOp at h2 ⊢
    simp only [ho, ho'] at h2 ⊢
    rw [core_yield (early_core fs i ops), wanted_strip hst] at h2
    split
    · rename_i h4
      rw [if_pos h4, wp_strip hst, asks_strip hst] at h2
      exact h2.imp (Oper.wp_mono hnext) id
    · rename_i h4
      rw [if_neg h4, (strip_op hst).1] at h2
      exact hnext _ _ h2

theorem move_wp {o : Oper} {x : Operand} (ho : o.op = .move x) {a : Act} {w : World} {K : Act → World → Prop} : o.wp P a w K Q = K (a.put o.dst (a.eval x)) w := by
  unfold Oper.wp
  have e : execOp a.eval o = pure (.value (a.eval x)) := by unfold execOp; simp only [ho]
  rw [e]
  rfl

theorem float_any (hok : seqOk ops = true) (h : Floats ops fs i oi x) : ∀ (fuel : Nat) (listed : Array Bool) (a : Act) (w : World), listed.size = ops.size → listed.getD i true = false →
    wpAny P .any (early fs i ops) (OnlyNormal Q) fuel (listed.setIfInBounds i true) (a.put oi.dst (a.eval x)) w → wpAny P .any ops (OnlyNormal Q) (fuel + 1) listed a w := by
  have hlt : i < ops.size := (Array.getElem?_eq_some_iff.1 h.at_).1
  have hx : ∀ t, x = .tmp t → t ∈ oi.looksAt ops := fun t ht => by
    refine List.mem_append_left _ (List.mem_filterMap.2 ⟨.tmp t, ?_, rfl⟩)
    rw [h.op]
    simp [Op.operands, ht]
  intro fuel
  induction fuel with
  | zero =>
    intro listed a w hs hu hw
    refine ⟨fun hr => ?_, fun j hj => ?_⟩
    · have := ready_late h (ready_self h hu)
      rw [hr] at this; cases this
    · by_cases hji : j = i
      · subst hji
        unfold wpOp
        simp only [h.at_]
        have hw1 : Region.wanted oi (yielded ops a.tmps) = true := by simp [Region.wanted, h.guard]
        rw [if_pos hw1, move_wp h.op]
        exact .inl (late_any h 0 _ _ w (by simpa using hs) (by rw [getD_set (by omega), if_pos rfl]) hw)
      · have := ready_early h hs hj hji
        rw [hw.1] at this; cases this
  | succ fuel ih =>
    intro listed a w hs hu hw
    refine ⟨fun hr => ?_, fun j hj => ?_⟩
    · have := ready_late h (ready_self h hu)
      rw [hr] at this; cases this
    · by_cases hji : j = i
      · subst hji
        unfold wpOp
        simp only [h.at_]
        have hw1 : Region.wanted oi (yielded ops a.tmps) = true := by simp [Region.wanted, h.guard]
        rw [if_pos hw1, move_wp h.op]
        exact .inl (late_any h (fuel + 1) _ _ w (by simpa using hs) (by rw [getD_set (by omega), if_pos rfl]) hw)
      · have hr := ready_early h hs hj hji
        have h2 := hw.2 j hr
        obtain ⟨huj, o, ho, he⟩ := ready_spec hj
        have hltj : j < listed.size := by rw [hs]; exact (Array.getElem?_eq_some_iff.1 ho).1
        have hap : (∀ d, oi.dst = some d → d ∉ o.looksAt ops) ∧ (∀ d, oi.dst = some d → o.dst ≠ some d) ∧ (∀ d, o.dst = some d → d ∉ oi.looksAt ops) := by
          rcases Nat.lt_or_ge j i with h4 | h4
          · obtain ⟨_, _, h5⟩ := seqOk_spec hok h.at_
            rcases h5 j o h4 ho with h6 | ⟨e, hem, _⟩
            · have := Oper.apart_spec h6
              exact ⟨this.2.2, fun d hd hd2 => this.2.1 d hd2 hd, this.1⟩
            · rw [h.after] at hem; simp at hem
          · obtain ⟨_, _, h5⟩ := seqOk_spec hok ho
            rcases h5 i oi (by omega) h.at_ with h6 | ⟨e, hem, hb, heq⟩
            · exact Oper.apart_spec h6
            · have := he e hem hb
              rw [heq, getD_both (by omega), hu] at this
              cases this
        obtain ⟨hsel, _, _⟩ := seqOk_spec hok ho
        have hc := early_core fs i ops j
        have ho' : ∃ o', (early fs i ops)[j]? = some o' ∧ strip o' = strip o := by
          rw [ho] at hc
          cases h3 : (early fs i ops)[j]? with
          | none => rw [h3] at hc; simp at hc
          | some o' => rw [h3] at hc; exact ⟨o', rfl, by simpa using hc⟩
        obtain ⟨o', ho', hst⟩ := ho'
        obtain ⟨b, hb⟩ : ∃ b, a.put oi.dst (a.eval x) = b := ⟨_, rfl⟩
        obtain ⟨e1, e2⟩ := same_exec (ops := ops) (a := b) (b := a) hsel (fun t htk => by
          rw [← hb]
          exact put_tmps_ne fun hd => hap.1 t hd htk)
        have hcom : ∀ u, b.put o.dst u = (a.put o.dst u).put oi.dst ((a.put o.dst u).eval x) := by
          intro u
          rw [← hb, Act.eval_put (dst := o.dst) (x := x) (fun d hd hxd => hap.2.2 d hd (hx d hxd))]
          exact Act.put_comm a _ _ hap.2.1
        have hset : ((listed.setIfInBounds i true).setIfInBounds j true) = ((listed.setIfInBounds j true).setIfInBounds i true) := Array.setIfInBounds_comm _ _ (fun e => hji e.symm)
        have hu2 : (listed.setIfInBounds j true).getD i true = false := by rw [getD_set hltj, if_neg (fun e => hji e.symm)]; exact hu
        have hnext : ∀ (a' : Act) (w' : World), wpAny P .any (early fs i ops) (OnlyNormal Q) fuel ((listed.setIfInBounds i true).setIfInBounds j true) (a'.put oi.dst (a'.eval x)) w' →
            wpAny P .any ops (OnlyNormal Q) (fuel + 1) (listed.setIfInBounds j true) a' w' := fun a' w' hn =>
          ih _ a' w' (by simpa using hs) hu2 (by rw [← hset]; exact hn)
        rw [hb] at h2
        unfold wpOp at h2 ⊢
        simp only [ho, ho'] at h2 ⊢
        rw [core_yield (early_core fs i ops), wanted_strip hst, e2] at h2
        split
        · rename_i h4
          rw [if_pos h4] at h2
          refine h2.imp (fun h5 => ?_) (fun h5 => ?_)
          · refine wp_shift hst e1 (by rw [← hb, put_defers]) (fun u w' hk => ?_) (fun d w' hk => ?_) h5
            · rw [hcom] at hk; exact hnext _ _ hk
            · refine hnext _ _ ?_
              have e5 : ({ b with defers := d :: b.defers } : Act) = ({ a with defers := d :: a.defers } : Act).put oi.dst (a.eval x) := by
                rw [← hb]; exact Act.put_defers a oi.dst _ d
              rw [e5, Act.put_comm _ _ _ hap.2.1] at hk
              have e6 : (({ a with defers := d :: a.defers } : Act).put o.dst undef).eval x = a.eval x := by
                rw [Act.eval_put (dst := o.dst) (x := x) (fun d hd hxd => hap.2.2 d hd (hx d hxd))]
                cases x <;> rfl
              rw [e6]
              exact hk
          · refine ⟨?_, h5.2⟩
            have h6 := h5.1
            rw [asks_strip hst] at h6
            unfold Oper.asks at h6 ⊢
            rw [e1] at h6
            exact h6
        · rename_i h4
          rw [if_neg h4, (strip_op hst).1, hcom] at h2
          exact hnext _ _ h2

theorem float_one (hok : seqOk ops = true) (h : Floats ops fs i oi x) {fuel : Nat} {listed : Array Bool} {a : Act} {w : World} (hs : listed.size = ops.size) (hu : listed.getD i true = false)
    (hw : wpAny P .any (early fs i ops) (OnlyNormal Q) fuel listed a w) : wpAny P .any ops (OnlyNormal Q) fuel listed a w := by
  have hr := ready_self h hu
  cases fuel with
  | zero => rw [hw.1] at hr; cases hr
  | succ fuel =>
    have h2 := hw.2 i hr
    have hi : (early fs i ops)[i]? = some oi := by rw [early_at, h.at_]; simp
    unfold wpOp at h2
    simp only [hi] at h2
    have hw1 : Region.wanted oi (yielded (early fs i ops) a.tmps) = true := by simp [Region.wanted, h.guard]
    rw [if_pos hw1, move_wp h.op] at h2
    rcases h2 with h2 | ⟨_, a', w', h3⟩
    · exact float_any hok h fuel listed a w hs hu h2
    · exact absurd h3.1 (by simp)
end

/-- The operations of fs, all taken first. -/
def earlies (fs : List Nat) : List Nat → Array Oper → Array Oper
  | [], ops => ops
  | i :: r, ops => earlies fs r (early fs i ops)
def floatsOk (fs : List Nat) : List Nat → Array Oper → Bool
  | [], _ => true
  | i :: r, ops => seqOk ops && fs.contains i && (match ops[i]? with | some o => o.guard.isNone && o.after.isEmpty && (match o.op with | .move _ => true | _ => false) | none => false) && floatsOk fs r (early fs i ops)
theorem floats_core (fs : List Nat) : ∀ (r : List Nat) (ops : Array Oper), Core ops (earlies fs r ops)
  | [], ops => Core.refl ops
  | i :: r, ops => (early_core fs i ops).trans (floats_core fs r _)
theorem earlies_size (fs : List Nat) : ∀ (r : List Nat) (ops : Array Oper), (earlies fs r ops).size = ops.size
  | [], _ => rfl
  | i :: r, ops => (earlies_size fs r _).trans (early_size fs i ops)
theorem floats_all {Q : Exit → Act → World → Prop} (fs : List Nat) {fuel : Nat} {a : Act} {w : World} : ∀ (r : List Nat) (ops : Array Oper), floatsOk fs r ops = true →
    wpAny P .any (earlies fs r ops) (OnlyNormal Q) fuel (Array.replicate ops.size false) a w → wpAny P .any ops (OnlyNormal Q) fuel (Array.replicate ops.size false) a w
  | [], _, _, h => h
  | i :: r, ops, hf, h => by
    unfold floatsOk at hf
    simp only [Bool.and_eq_true] at hf
    obtain ⟨⟨⟨h1, h2⟩, h3⟩, h4⟩ := hf
    cases ho : ops[i]? with
    | none => rw [ho] at h3; simp at h3
    | some o =>
      rw [ho] at h3
      simp only [Bool.and_eq_true] at h3
      obtain ⟨⟨h5, h6⟩, h7⟩ := h3
      have hx : ∃ x, o.op = .move x := by
        cases hop : o.op <;> rw [hop] at h7 <;> first | exact ⟨_, rfl⟩ | cases h7
      obtain ⟨x, hx⟩ := hx
      have hF : Floats ops fs i o x := ⟨ho, hx, by simpa using h5, by simpa using h6, h2⟩
      have ih := floats_all fs r (early fs i ops) h4 (by rw [early_size]; exact h)
      rw [early_size] at ih
      have hlt : i < ops.size := (Array.getElem?_eq_some_iff.1 ho).1
      exact float_one h1 hF (by simp) (by simp [Array.getD, hlt]) ih

theorem core_take {ops ops' : Array Oper} (h : Core ops ops') : ops'.toList.map strip = ops.toList.map strip := by
  apply List.ext_getElem?
  intro j
  have hj := h j
  simp only [List.getElem?_map, Array.getElem?_toList]
  exact hj

/-- **A region that draws its order but for its end, some moves of which nothing but the end waits for.** fs: their numbers. -/
theorem wp_region_tailF {id : Nat} {a : Act} {w : World} {Q : Exit → Act → World → Prop} (fs : List Nat) (m : Nat) (S : World → Prop) {l : List Oper} (hm : P.follows .mixedOrders = true)
    (hf : floatsOk fs fs l.toArray = true) (hok : seqOk (earlies fs fs l.toArray) = true) (ht : tailOk (earlies fs fs l.toArray) m = true) (hml : m ≤ l.length) (hS : S w.drew)
    (h : wpDet P l.toArray S (fun a' => ∀ w', S w' → wpList P l.toArray (OnlyNormal Q) (l.drop m) a' w') (l.take m) a) : (Code.region id l.toArray true).wp P Q a w := by
  refine wp_mono (Q := OnlyNormal Q) ?_ (fun e a w h => by obtain ⟨rfl, h⟩ := h; exact h)
  refine wp_region_any hm ?_
  refine floats_all fs fs l.toArray hf ?_
  have hc := floats_core fs fs l.toArray
  have hz : (earlies fs fs l.toArray).size = l.length := by rw [earlies_size]; simp
  obtain ⟨l', hl'⟩ : ∃ l' : List Oper, earlies fs fs l.toArray = l'.toArray := ⟨(earlies fs fs l.toArray).toList, by simp⟩
  rw [hl'] at hc hok ht hz ⊢
  have hmap : l'.map strip = l.map strip := by simpa using core_take hc
  have hlen' : l'.length = l.length := by simpa using hz
  have h' : wpDet P l'.toArray S (fun a' => ∀ w', S w' → wpList P l'.toArray (OnlyNormal Q) (l'.drop m) a' w') (l'.take m) a := by
    have e := core_wpList (P := P) (Q := OnlyNormal Q) hc (l.drop m) (l'.drop m) (by rw [List.map_drop, List.map_drop, hmap])
    rw [e]
    exact core_wpDet hc (l.take m) (l'.take m) a (by rw [List.map_take, List.map_take, hmap]) h
  have hs : l.toArray.size = l'.toArray.size := by simp [hlen']
  rw [hs]
  have key : (Code.region id l'.toArray true).wp P (OnlyNormal Q) a w → True := fun _ => trivial
  clear key
  obtain ⟨ps, h1, h2, h3⟩ := wpDet_pairs (l'.take m) a h'
  have hlen : ps.length = m := by
    have : (ps.map (·.1)).length = (l'.take m).length := by rw [h1]
    simpa [Nat.min_eq_left (show m ≤ l'.length by omega)] using this
  rw [hlen] at h3
  refine tail_all (S := S) (A := stateAt a ps) (ps := ps) (m := m) hok ht (by simp; omega) (fun j o hj => ?_) (fun k o v hk => stateAt_succ hk) (fun k hk => ?_) h2 (by simpa using h3) hlen l'.toArray.size _ a _ (by simp)
    (fun j _ hj => by
      have hj' : j < l'.length := by simpa using hj
      simp [Array.getD, hj'])
    (fun j oj hj hl => ?_) (by simp [stateAt]) (by simp [stateAt]) (fun t k hkm hk => ?_) hS ?_
  · have e : l'.toArray[j]? = (l'.take m)[j]? := by simp [hj]
    rw [e, ← h1]
    simp only [List.getElem?_map]
    cases hp : ps[j]? with
    | none => simp
    | some p =>
      obtain ⟨o', v'⟩ := p
      simp only [Option.map_some, Option.some.injEq, Prod.mk.injEq]
      exact ⟨fun e => ⟨v', e, rfl⟩, fun ⟨_, e, _⟩ => e⟩
  · simp [stateAt, List.take_of_length_le hk, List.take_of_length_le (Nat.le_succ_of_le hk)]
  · have hlt : j < l'.toArray.size := (Array.getElem?_eq_some_iff.1 hj).1
    have hlt' : j < l'.length := by simpa using hlt
    simp [Array.getD, hlt'] at hl
  · have := no_writer (A := stateAt a ps) (ps := ps) (t := t) (fun k o v hk => stateAt_succ hk) (fun k hk => by simp [stateAt, List.take_of_length_le hk, List.take_of_length_le (Nat.le_succ_of_le hk)]) k 0 (fun j o v _ hjk hpj hd => by
      have hoj : l'.toArray[j]? = some o := by
        have e : l'.toArray[j]? = (l'.take m)[j]? := by simp [show j < m by omega]
        rw [e, ← h1]
        simp [hpj]
      have hlt : j < l'.toArray.size := (Array.getElem?_eq_some_iff.1 hoj).1
      have hlt' : j < l'.length := by simpa using hlt
      have := (hk j o (by omega) hoj hd).2 (by omega)
      simp [Array.getD, hlt'] at this)
    rw [Nat.zero_add] at this
    rw [this]
    simp [stateAt]
  · exact Nat.le_trans List.count_le_length (by simp)
end
end Go.Proofs.Ytbeojfhakmbacaa
