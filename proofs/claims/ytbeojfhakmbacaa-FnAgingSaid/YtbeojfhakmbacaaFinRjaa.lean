/- What is proved here is used by the law below: contracts of functions and plain lemmas (part 1 of 17). Their conditions stand in each. -/
import Derived.WalkKit
import Derived.WalkSpells
import Derived.WalkLawsBesides
import Derived.Handy
import Derived.ProofKit
import Derived.SizedLaws
import Derived.Deep.AppendLies
import Derived.Deep.Draws
import Derived.Deep.Slices
import Derived.Deep.Fields
import Derived.Lib.SmallJoins
import Derived.SliceStrings
import Derived.Test.YtbeojfhakmbacaaRows
namespace Go.Proofs.Ytbeojfhakmbacaa
theorem zp1 {α : Type _} (l : List α) (i : Nat) (a : α) : l.toArray.setIfInBounds i a = (l.set i a).toArray := List.setIfInBounds_toArray ..
theorem zp2 {α : Type _} (l : List α) (x y : α) : (x :: l).set 0 y = y :: l := rfl
theorem zp3 {α : Type _} (l : List α) (x y : α) (n : Nat) : (x :: l).set (n + 1) y = x :: l.set n y := rfl
end Go.Proofs.Ytbeojfhakmbacaa
namespace Go.Proofs.Ytbeojfhakmbacaa
open Go.RowKit Go.WideShapes Go.ChangeShapes Go.ChangeAt Go.Joins Go.Deep
/-! ### Slices that read as a list -/
theorem block_of_add (a : Addr) (n : Nat) : (a.add n).block = a.block := by unfold Addr.add; split <;> rfl
theorem add_of_add (a : Addr) (i j : Nat) : (a.add i).add j = a.add (i + j) := by
  unfold Addr.add
  by_cases hi : i = 0 <;> by_cases hj : j = 0 <;> simp [hi, hj, Nat.add_assoc]
def Reads (w : World) (B size : Nat) (A : Option Addr) (n : Nat) (xs : List Value) : Prop :=
  xs.length = n * size ∧ (0 < n → ∃ ad, A = some ad ∧ ad.block < B ∧ ∀ j u, xs[j]? = some u → w.cell? (ad.add j) = some u)
section
variable {w w' : World} {B B' size n : Nat} {A : Option Addr} {xs : List Value}
theorem Reads.keep (h : Reads w B size A n xs) (hk : ∀ p : Addr, p.block < B → w'.cell? p = w.cell? p) : Reads w' B size A n xs :=
  ⟨h.1, fun hn => by
    obtain ⟨ad, e, hb, hc⟩ := h.2 hn
    exact ⟨ad, e, hb, fun j u hu => (hk _ (by rw [block_of_add]; exact hb)).trans (hc j u hu)⟩⟩
theorem Reads.more (h : Reads w B size A n xs) (hB : B ≤ B') : Reads w B' size A n xs :=
  ⟨h.1, fun hn => by
    obtain ⟨ad, e, hb, hc⟩ := h.2 hn
    exact ⟨ad, e, by omega, hc⟩⟩
theorem Reads.below (h : Reads w B size A n xs) (hb : Below B w w') : Reads w' B size A n xs := h.keep fun _ hp => hb.cell hp
theorem Reads.drew (h : Reads w B size A n xs) : Reads w.drew B size A n xs := h
theorem Reads.alloc (h : Reads w B size A n xs) (hB : B ≤ w.heap.size) (o : Obj) : Reads (w.alloc o) B size A n xs := h.keep fun p hp => World.cell?_alloc_lt w o p (by omega)
theorem Reads.setCell (h : Reads w B size A n xs) {p : Addr} (hB : B ≤ p.block) (u : Value) : Reads (w.setCell p u) B size A n xs :=
  h.keep fun q hq => World.cell?_setCell_other w p q u (fun e => by subst e; omega)
theorem Reads.grown (h : Reads w B size A n xs) {row : Option Nat} (hg : w.grownBy w' row) (hB : B ≤ w.heap.size) (hr : ∀ g, row = some g → B ≤ g) : Reads w' B size A n xs :=
  h.keep fun p hp => World.cell?_of_block (hg.block p.block (by omega) (fun e => by have := hr _ e.symm; omega))
theorem Reads.of_own {base : Nat} {e : TypeId} {c : Nat} (h : w.ownsRow base e size (.slice A n c) n xs) : Reads w w.heap.size size A n xs := by
  refine ⟨h.1, fun hn => ?_⟩
  obtain ⟨g, cap, hv, _, hlt⟩ := h.form hn
  have hA : A = some ⟨g, 0, none⟩ := by injection hv
  subst hA
  exact ⟨_, rfl, hlt, h.cells (g := g) rfl⟩
end
/-! ### What a world keeps -/
theorem keep_cell {W w1 : World} {p : Addr} {u : Value} (hb : Below W.heap.size W w1) (h : W.cell? p = some u) : w1.cell? p = some u := (hb.cell (World.block_lt_of_cell? W p h)).trans h
theorem keep_fre {W w1 : World} {g : Nat} (hb : Below W.heap.size W w1) (h : g < W.heap.size ∧ ∀ i, W.frozen? ⟨g, i, none⟩ = false) : g < w1.heap.size ∧ ∀ i, w1.frozen? ⟨g, i, none⟩ = false :=
  ⟨Nat.lt_of_lt_of_le h.1 hb.size, fun i => (hb.frozen (p := ⟨g, i, none⟩) h.1).trans (h.2 i)⟩
theorem keep0 {w W w1 : World} (h : Below w.heap.size w W) (hb : Below W.heap.size W w1) : Below w.heap.size w w1 :=
  h.trans (hb.mono h.size)
theorem keep3 {w W w1 : World} {p0 p1 p2 : Addr} {u0 u1 u2 : Value} (h : W.cell? p0 = some u0 ∧ W.cell? p1 = some u1 ∧ W.cell? p2 = some u2 ∧ Below w.heap.size w W) (hb : Below W.heap.size W w1) : w1.cell? p0 = some u0 ∧ w1.cell? p1 = some u1 ∧ w1.cell? p2 = some u2 ∧ Below w.heap.size w w1 :=
  ⟨keep_cell hb h.1, keep_cell hb h.2.1, keep_cell hb h.2.2.1, h.2.2.2.trans (hb.mono h.2.2.2.size)⟩
theorem keep6_1 {w W w1 : World} {p0 p1 p2 p3 p4 p5 : Addr} {u0 u1 u2 u3 u4 u5 : Value} {g0 : Nat} (h : W.cell? p0 = some u0 ∧ W.cell? p1 = some u1 ∧ W.cell? p2 = some u2 ∧ W.cell? p3 = some u3 ∧ W.cell? p4 = some u4 ∧ W.cell? p5 = some u5 ∧ (g0 < W.heap.size ∧ ∀ i, W.frozen? ⟨g0, i, none⟩ = false) ∧ Below w.heap.size w W) (hb : Below W.heap.size W w1) : w1.cell? p0 = some u0 ∧ w1.cell? p1 = some u1 ∧ w1.cell? p2 = some u2 ∧ w1.cell? p3 = some u3 ∧ w1.cell? p4 = some u4 ∧ w1.cell? p5 = some u5 ∧ (g0 < w1.heap.size ∧ ∀ i, w1.frozen? ⟨g0, i, none⟩ = false) ∧ Below w.heap.size w w1 :=
  ⟨keep_cell hb h.1, keep_cell hb h.2.1, keep_cell hb h.2.2.1, keep_cell hb h.2.2.2.1, keep_cell hb h.2.2.2.2.1, keep_cell hb h.2.2.2.2.2.1, keep_fre hb h.2.2.2.2.2.2.1, h.2.2.2.2.2.2.2.trans (hb.mono h.2.2.2.2.2.2.2.size)⟩
theorem below_via {w W w1 : World} (h : Below w.heap.size w W) (hb : Below W.heap.size W w1) : Below w.heap.size w w1 := h.trans (hb.mono h.size)
def Gives (w : World) (v : Value) (e : Ending) (w' : World) : Prop := e = .returned v ∧ Below w.heap.size w w'
theorem hide {p : Prop} (h : p) : Hid p := h
theorem int_eq {k : IntKind} {a b : Int} (h : a = b) : Value.int k a = Value.int k b := by rw [h]
theorem bool_eq {a b : Bool} (h : a = b) : Value.bool a = Value.bool b := by rw [h]
theorem ret_eq {a b : Value} (h : a = b) : Ending.returned a = .returned b := by rw [h]
/-! ### From a law's walk to the given statement -/
section
variable {H : Type} {enc : TypeId × Value → H} {P : Program}
theorem post_of_below {f : Func} {s : ChangeSpec} {apart fresh handsOn again : Bool} {W W' : World} {args : Array Value} {v : Value} {ds gs : List (DataW H)} {before pa pv : List MemPlace}
    (hW : DataW.Whole enc P f.params.toList s.vars apart W args.toList ds gs before)
    (hres : ∀ (b : Nat) (sp : Nat → Bool) (hd : Bool), DataW.TrodAll enc P W' b sp hd f.resultTypes.toList (v.resultList f.resultTypes.size) (s.fn H (ds ++ gs)).results [])
    (hargs : ∀ sp : Nat → Bool, (∀ p ∈ before, sp p.block = true) → DataW.TrodAll enc P W' 0 sp true f.params.toList args.toList (s.fn H (ds ++ gs)).args pa)
    (hvars : ∀ sp : Nat → Bool, (∀ p ∈ before, sp p.block = true) → DataW.TrodVars enc P W' sp s.vars (s.fn H (ds ++ gs)).vars pv)
    (hps : before = pa ++ pv) (hb : Below W.heap.size W W')
    (hok : ∀ (j : Nat) (t : TypeId) (r : Value), f.resultTypes[j]? = some t → (v.resultList f.resultTypes.size)[j]? = some r → Value.okWide P W' .any 0 t r) :
    s.post enc P f apart fresh handsOn again W args v W' := by
  have hlt : ∀ p ∈ before, p.block < W.heap.size := fun p hp => hW.lt p hp
  have hold : ∀ p ∈ before, (fun b => decide (b < W.heap.size)) p.block = true := fun p hp => by simpa using hlt p hp
  refine ⟨ds, gs, before, [], pa, pv, hW, hres _ _ _, hargs _ hold, hvars _ hold, World.keptBut_mono (fun p hp => ⟨hp, ?_⟩) (hb.frame (· ∈ before)), fun _ => ?_⟩
  · rw [hps, List.mem_append] at hp
    exact Or.inr hp
  · obtain ⟨_, _, _, _, _, hz, hn⟩ := hW
    refine ⟨hok, _, _, ([] ++ pa) ++ pv, ⟨[] ++ pa, pv, trodAll_append (hargs _ (fun _ _ => rfl)) (hres _ _ _), hvars _ (fun _ _ => rfl), rfl, ?_, ?_⟩, ?_⟩
    · intro b off hp
      have hin : MemPlace.cell b off ∈ before := by rw [hps]; simpa using hp
      rw [hb.frozen (hlt _ hin)]
      exact hz b off hin
    · intro ha
      have := hn ha
      rw [hps] at this
      simpa using this
    · intro p hp _
      rw [hps]
      simpa using hp
theorem trodAll_len {W : World} {b : Nat} {sp : Nat → Bool} {hd : Bool} : ∀ {ts : List TypeId} {vs : List Value} {ds : List (DataW H)} {ps : List MemPlace},
    DataW.TrodAll enc P W b sp hd ts vs ds ps → ds.length = ts.length
  | [], _, _, _, h => by
    obtain ⟨rfl, rfl, rfl⟩ := trodAll_nil h
    rfl
  | t :: ts, _, _, _, h => by
    obtain ⟨v, vs', d, ds', p, q, rfl, rfl, rfl, h1, h2⟩ := trodAll_cons h
    simpa using trodAll_len h2
theorem trodAll_kept {W W' : World} (hl : laidOutB P = true) (hb : Below W.heap.size W W') (sp : Nat → Bool) :
    ∀ {ts : List TypeId} {vs : List Value} {ds : List (DataW H)} {ps : List MemPlace}, (∀ t ∈ ts, P.readableRec t = true ∧ t < P.types.size) →
      DataW.TrodAll enc P W 0 (fun _ => true) true ts vs ds ps → (∀ x ∈ ps, x.block < W.heap.size) → (∀ x ∈ ps, sp x.block = true) → DataW.TrodAll enc P W' 0 sp true ts vs ds ps
  | [], _, _, _, _, h, _, _ => by
    obtain ⟨rfl, rfl, rfl⟩ := trodAll_nil h
    exact trodAll_mk0
  | t :: ts, _, _, _, ht, h, hlt, hsp => by
    obtain ⟨v, vs', d, ds', p, q, rfl, rfl, rfl, h1, h2⟩ := trodAll_cons h
    obtain ⟨r1, r2⟩ := ht t (by simp)
    exact trodAll_cons_mk (WideElems.Trod_stays hl r1 r2 h1 (fun x hx => hb.same (hlt x (by simp [hx]))) (fun x hx => hsp x (by simp [hx])))
      (trodAll_kept hl hb sp (fun u hu => ht u (by simp [hu])) h2 (fun x hx => hlt x (by simp [hx])) (fun x hx => hsp x (by simp [hx])))
end
theorem law_lift {H : Type} {enc : TypeId × Value → H} {C : Checked} {os : Os} {f : FuncId} {fn : Func} {s : ChangeSpec} {tb : TypeId} (hl : laidOutB C.prog = true)
    (own : ownKnob C.prog.godebug = none) (started : os.Started) (noInit : C.prog.inits.idxOf? f = none) (hfn : C.prog.funcs[f]? = some fn)
    (witness : ∃ (w : World) (tape : Tape) (i : Input), w.os = os ∧ (w.forCall tape i).Shaped C.prog ∧ i.vars = [] ∧ Input.okWide C.prog (w.forCall tape i) .any w.heap.size f i ∧
      s.pre6 enc C.prog fn [] false (w.forCall tape i).memory i.args ∧ ({} : Assume).holds C.prog (lone (Frame.enter C.prog f i.args .normal) [] (w.forCall tape i)))
    (hv : s.vars = []) (hr : fn.resultTypes = #[tb]) (ht : C.prog.underlying tb = some .bool)
    (hts : ∀ t ∈ fn.params.toList, C.prog.readableRec t = true ∧ t < C.prog.types.size)
    (hspec : ∀ ds : List (DataW H), ds.length = fn.params.size → s.fn H ds = { results := [.lit (.bool true)], args := ds })
    (walk : ∀ (W : World) (base : Nat) (args : Array Value) (ds : List (DataW H)) (ps : List MemPlace),
      (∀ (j : Nat) t v, fn.params[j]? = some t → args[j]? = some v → Value.okWide C.prog W .any base t v) →
      DataW.TrodAll enc C.prog W 0 (fun _ => true) true fn.params.toList args.toList ds ps →
      (∀ x ∈ ps, x.block < W.heap.size) →
      (DataW.weightsEach C.prog fn.params.toList ds).all (· ≤ reachBytes) = true →
      Calls C.prog f args W (Gives W (.bool true))) :
    ReturnsInHanded {} C os f .any (s.pre6 enc C.prog fn [] false) (s.post enc C.prog fn false true false false) := by
  refine returnsInHanded_of_change_sized (C := C) own started noInit hfn witness ?_
  intro W base args ds gs before hval hW _ hsz _
  have hW' := hW
  obtain ⟨p, q, hA, hV, rfl, _, _⟩ := hW
  rw [hv] at hV
  obtain ⟨rfl, rfl⟩ := trodVars_none hV
  have hlt : ∀ x ∈ p ++ [], x.block < W.heap.size := fun x hx => hW'.lt x hx
  simp only [List.append_nil] at hlt hW'
  have hsz' : (DataW.weightsEach C.prog fn.params.toList ds).all (· ≤ reachBytes) = true := by
    simpa [ChangeSpec.plain, DataSpec.varTypes, hv] using hsz
  have hlen : ds.length = fn.params.size := by
    have := trodAll_len hA
    simpa using this
  have hsp : s.fn H (ds ++ []) = { results := [.lit (.bool true)], args := ds } := by rw [List.append_nil]; exact hspec ds hlen
  refine (walk W base args ds p hval hA hlt hsz').mono fun e W' ⟨he, hb⟩ => ?_
  subst he
  refine ⟨_, rfl, post_of_below (pa := p) (pv := []) hW' (fun _ _ _ => ?_) (fun sp hs => ?_) (fun _ _ => ?_) (by simp) hb ?_⟩
  · rw [hsp, hr]
    exact trodAll_mk1 (shut_bool ht _)
  · rw [hsp]
    exact trodAll_kept hl hb sp hts hA hlt hs
  · rw [hsp, hv]
    rfl
  · exact ok_one hr rfl (okWide_bool_mk ht _)
/-! ### Opening arguments -/
section
variable {H : Type} {enc : TypeId × Value → H} {P : Program} {w : World} {base : Nat} {spare : Nat → Bool} {held : Bool}
end
end Go.Proofs.Ytbeojfhakmbacaa
namespace Go.Proofs.Ytbeojfhakmbacaa
open Go.RowKit Go.WideShapes Go.ChangeShapes Go.ChangeAt Go.Joins Go.Deep
theorem Try.own : ownKnob Try.prog.godebug = none := by kernel_rfl
theorem Try.laidOut : laidOutB Try.prog = true := by kernel_rfl
end Go.Proofs.Ytbeojfhakmbacaa
namespace Go.Proofs.Ytbeojfhakmbacaa
open Go.RowKit
theorem below_grownBy {w w' : World} (h : Below w.heap.size w w') : w.grownBy w' none := ⟨h.os, h.tape, h.output, h.size, fun k hk _ => h.block k hk⟩
theorem own_below {w w' : World} {base : Nat} {e : TypeId} {size : Nat} {v : Value} {n : Nat} {xs : List Value} (h : w.ownsRow base e size v n xs) (hb : Below w.heap.size w w') : w'.ownsRow base e size v n xs :=
  h.kept (below_grownBy hb) (by
    cases hv : v.ownBlock with
    | none => exact Or.inl rfl
    | some k => exact Or.inr (by simp))
theorem own_cell {w w' : World} {base : Nat} {e : TypeId} {size : Nat} {v : Value} {n : Nat} {xs : List Value} (h : w.ownsRow base e size v n xs) (hg : w.grownBy w' v.ownBlock) {a : Addr} {u : Value} (hc : w.cell? a = some u) (ha : a.block < base) : w'.cell? a = some u :=
  hg.cell hc fun e => by have := (h.lt _ e.symm).1; omega
theorem own_grown {w w' a : World} {B base : Nat} {e : TypeId} {size : Nat} {v : Value} {n : Nat} {xs : List Value} (h : w.ownsRow base e size v n xs) (hg : w.grownBy w' v.ownBlock) (hb : Below B a w) (hB : B ≤ w.heap.size) (hx : B ≤ base) : Below B a w' :=
  hb.grown hg hB fun k hk => by have := (h.lt k hk).1; omega
theorem news_one {w : World} {a : Addr} {x : Value} (h : w.cell? a = some x) : ∀ j u, [x][j]? = some u → w.cell? (a.add j) = some u := by
  intro j u hj
  match j, hj with
  | 0, hj => simp at hj; subst hj; simpa [Addr.add] using h
def byteVal (c : UInt8) : Value := .int .u8 (c.toNat : Int)
theorem set_ahead (q : Nat) (z v : Value) (l : List Value) : (List.replicate (q + 1) z ++ l).set q v = List.replicate q z ++ v :: l := by
  induction q with
  | zero => simp
  | succ q ih => rw [List.replicate_succ, List.cons_append, List.set_cons_succ, ih]; simp [List.replicate_succ]
theorem at_ahead (q : Nat) (z : Value) (l : List Value) : (List.replicate (q + 1) z ++ l)[q]? = some z := by
  rw [List.getElem?_append_left (by simp)]; simp
end Go.Proofs.Ytbeojfhakmbacaa
namespace Go.Proofs.Ytbeojfhakmbacaa
open Go.RowKit
abbrev Pt := Int × Int
def flat (l : List Pt) : List Value := l.flatMap fun p => [.int .i64 p.1, .int .i64 p.2]
def nth (l : List Int) (k : Nat) : Int := l.getD k 0
def ints (l : List Int) : List Value := l.map (.int .i64)
theorem flat_cons (p : Pt) (l : List Pt) : flat (p :: l) = .int .i64 p.1 :: .int .i64 p.2 :: flat l := rfl
theorem flat_len : ∀ l : List Pt, (flat l).length = l.length * 2
  | [] => rfl
  | p :: l => by rw [flat_cons, List.length_cons, List.length_cons, flat_len l, List.length_cons]; omega
theorem ints_at (l : List Int) (k : Nat) (h : k < l.length) : (ints l)[k]? = some (.int .i64 (nth l k)) := by
  simp [ints, nth, List.getElem?_map, List.getElem?_eq_getElem h]
theorem add_one (a : Addr) : a.add 1 = ⟨a.block, a.off + 1, none⟩ := by simp [Addr.add]
section
variable {w w' : World} {B n : Nat} {A : Option Addr}
theorem reads_below {size : Nat} {xs : List Value} (h : Reads w w.heap.size size A n xs) (hb : Below w.heap.size w w') : Reads w' w'.heap.size size A n xs := (h.below hb).more hb.size
theorem Reads.len {l : List Pt} (h : Reads w B 2 A n (flat l)) : n = l.length := by have := h.1; rw [flat_len] at this; omega
end
theorem nth_mem {l : List Int} {k : Nat} (h : k < l.length) : nth l k ∈ l := by
  have e : nth l k = l[k] := by simp [nth, List.getElem?_eq_getElem h]
  rw [e]; exact List.getElem_mem h
def GivesS (w : World) (e : TypeId) (size n : Nat) (xs : List Value) (f : Value → Value) (r : Ending) (w' : World) : Prop :=
  ∃ A c, r = .returned (f (.slice A n c)) ∧ w'.ownsRow w.heap.size e size (.slice A n c) n xs ∧ Below w.heap.size w w'
theorem own_empty (w : World) {base : Nat} {e : TypeId} {size H : Nat} (hH : w.heap.size = H) (hb : base ≤ H) : (w.alloc (.cells #[] e)).ownsRow base e size (.slice (some ⟨H, 0, none⟩) 0 0) 0 [] := by
  subst hH; exact World.ownsRow_made w #[] 0 hb (by decide) (by simp)
theorem own_mono {w : World} {base base' : Nat} {e : TypeId} {size : Nat} {v : Value} {n : Nat} {xs : List Value} (h : w.ownsRow base e size v n xs) (hb : base' ≤ base) : w.ownsRow base' e size v n xs :=
  ⟨h.1, h.2.imp id fun ⟨g, cap, cur, h1, h2, h3⟩ => ⟨g, cap, cur, h1, Nat.le_trans hb h2, h3⟩⟩
theorem own_reads {w : World} {base : Nat} {e : TypeId} {size : Nat} {A : Option Addr} {c n : Nat} {xs : List Value} (h : w.ownsRow base e size (.slice A n c) n xs) : Reads w w.heap.size size A n xs := Reads.of_own h
/-! lists by their beginnings -/
/-! numbers in a row -/
theorem set_mid (a : List Value) (x y : Value) (b : List Value) {i : Nat} (h : i = a.length) : (a ++ x :: b).set i y = a ++ y :: b := by
  subst h; simp
theorem grown_trans {a b c : World} {row : Option Nat} (h : a.grownBy b row) (h' : b.grownBy c row) : a.grownBy c row :=
  ⟨h'.os.trans h.os, h'.tape.trans h.tape, h'.output.trans h.output, Nat.le_trans h.size h'.size, fun k hk hr => (h'.block k (Nat.lt_of_lt_of_le hk h.size) hr).trans (h.block k hk hr)⟩
theorem Reads.two {w : World} {B n : Nat} {A : Option Addr} {xs : List Value} (h : Reads w B 2 A n xs) {k : Nat} (hk : k < n) {u v : Value} (hu : xs[k * 2]? = some u) (hv : xs[k * 2 + 1]? = some v) :
    ∃ ad : Addr, A = some ad ∧ ad.block < B ∧ w.cell? (ad.add (k * 2)) = some u ∧ w.cell? ⟨(ad.add (k * 2)).block, (ad.add (k * 2)).off + 1, none⟩ = some v := by
  obtain ⟨ad, e, hb, hc⟩ := h.2 (by omega)
  exact ⟨ad, e, hb, hc _ _ hu, by rw [← add_one, add_of_add]; exact hc _ _ hv⟩
theorem Reads.one {w : World} {B n : Nat} {A : Option Addr} {xs : List Value} (h : Reads w B 1 A n xs) {k : Nat} (hk : k < n) {u : Value} (hu : xs[k]? = some u) :
    ∃ ad : Addr, A = some ad ∧ ad.block < B ∧ w.cell? (ad.add k) = some u := by
  obtain ⟨ad, e, hb, hc⟩ := h.2 (by omega)
  exact ⟨ad, e, hb, hc _ _ hu⟩
theorem own_at {w : World} {base : Nat} {e : TypeId} {size : Nat} {A : Option Addr} {c n : Nat} {xs : List Value} (h : w.ownsRow base e size (.slice A n c) n xs) (hn : n ≠ 0) : ∃ g, A = some ⟨g, 0, none⟩ ∧ base ≤ g ∧ g < w.heap.size := by
  obtain ⟨g, cap, hv, h2, h3⟩ := World.ownsRow.form h (by omega)
  injection hv with hv _ _
  exact ⟨g, hv, h2, h3⟩
theorem own_based {w : World} {base m : Nat} {e : TypeId} {size : Nat} {v : Value} {n : Nat} {xs : List Value} (h : w.ownsRow base e size v n xs) (hm : m ≤ base) : ∃ b, w.ownsRow b e size v n xs ∧ m ≤ b := ⟨base, h, hm⟩
theorem own_cap {w : World} {base : Nat} {e : TypeId} {size : Nat} {A : Option Addr} {c n : Nat} {xs : List Value} (h : w.ownsRow base e size (.slice A n c) n xs) : n ≤ c := by
  rcases h.2 with ⟨hv, _⟩ | ⟨g, cap, cur, hv, _, _, hc, _⟩
  · injection hv with _ h1 h2; omega
  · injection hv with _ _ h2; omega
theorem Reads.front {w : World} {B size n k : Nat} {A : Option Addr} {xs : List Value} (h : Reads w B size A n xs) (hk : k ≤ n) : Reads w B size A k (xs.take (k * size)) := by
  refine ⟨by rw [List.length_take, h.1]; exact Nat.min_eq_left (Nat.mul_le_mul_right _ hk), fun hn => ?_⟩
  obtain ⟨ad, e, hb, hc⟩ := h.2 (by omega)
  refine ⟨ad, e, hb, fun j u hu => hc j u ?_⟩
  rw [List.getElem?_take] at hu
  split at hu
  · exact hu
  · cases hu
theorem Reads.back {w : World} {B size n k : Nat} {ad : Addr} {xs : List Value} (h : Reads w B size (some ad) n xs) (hk : k ≤ n) : Reads w B size (some (ad.add (k * size))) (n - k) (xs.drop (k * size)) := by
  refine ⟨by rw [List.length_drop, h.1, Nat.sub_mul], fun hn => ?_⟩
  obtain ⟨ad', e, hb, hc⟩ := h.2 (by omega)
  injection e with e
  subst e
  refine ⟨_, rfl, by rw [block_of_add]; exact hb, fun j u hu => ?_⟩
  rw [add_of_add]
  exact hc _ u (by rw [← hu, List.getElem?_drop])
theorem Reads.none_back {w : World} {B size : Nat} (A : Option Addr) : Reads w B size A 0 [] := ⟨by simp, fun hn => absurd hn (by omega)⟩
end Go.Proofs.Ytbeojfhakmbacaa
namespace Go.Proofs.Ytbeojfhakmbacaa
def wi (n a b : Int) : Bool := decide (a ≤ n) && decide (n ≤ b)
theorem wi_iff {n a b : Int} : wi n a b = true ↔ a ≤ n ∧ n ≤ b := by simp [wi]
def szOf (o : Bool) : Int := if o then 99 else 100
def vR (o : Bool) (a b : Int) : Bool := wi a 0 (szOf o - 1) && wi b 0 (szOf o - 1)
theorem szOf_two (o : Bool) : szOf o = 99 ∨ szOf o = 100 := by cases o <;> simp [szOf]
def pkU (o : Bool) (a b : Int) : Int := 128 * a + b + (if o then 16384 else 0)
def upK (d : Int) : Bool := wi d 0 32767 && vR (decide (16384 ≤ d)) (d % 16384 / 128) (d % 128)
def upO (d : Int) : Bool := upK d && decide (16384 ≤ d)
def upA (d : Int) : Int := if upK d = true then d % 16384 / 128 else 0
def upB (d : Int) : Int := if upK d = true then d % 128 else 0
/-! The loops' facts. -/
end Go.Proofs.Ytbeojfhakmbacaa
namespace Go.Proofs.Ytbeojfhakmbacaa
open Go.RowKit
abbrev Rp := Bool × Int × Int
abbrev Hd := Int × Rp × Int × Rp × Int × Int
def hdc (h : Hd) : List Value := [.int .i64 h.1, .bool h.2.1.1, .int .i64 h.2.1.2.1, .int .i64 h.2.1.2.2, .int .i64 h.2.2.1, .bool h.2.2.2.1.1, .int .i64 h.2.2.2.1.2.1, .int .i64 h.2.2.2.1.2.2, .int .i64 h.2.2.2.2.1, .int .i64 h.2.2.2.2.2]
def hdV (h : Hd) : Value := .agg #[.int .i64 h.1, .bool h.2.1.1, .int .i64 h.2.1.2.1, .int .i64 h.2.1.2.2, .int .i64 h.2.2.1, .bool h.2.2.2.1.1, .int .i64 h.2.2.2.1.2.1, .int .i64 h.2.2.2.1.2.2, .int .i64 h.2.2.2.2.1, .int .i64 h.2.2.2.2.2]
def hds (l : List Hd) : List Value := l.flatMap hdc
def nHd : Hd := (0, (false, 0, 0), 0, (false, 0, 0), 0, 0)
def hx (l : List Hd) (k : Nat) : Hd := l.getD k nHd
theorem hdc_len (h : Hd) : (hdc h).length = 10 := rfl
theorem hds_cons (p : Hd) (l : List Hd) : hds (p :: l) = hdc p ++ hds l := rfl
theorem hds_app (a b : List Hd) : hds (a ++ b) = hds a ++ hds b := by simp [hds]
theorem hds_snoc (l : List Hd) (p : Hd) : hds (l ++ [p]) = hds l ++ hdc p := by rw [hds_app]; simp [hds]
theorem hds_len : ∀ l : List Hd, (hds l).length = l.length * 10
  | [] => rfl
  | p :: l => by rw [hds_cons, List.length_append, hdc_len, hds_len l, List.length_cons]; omega
theorem hds_at : ∀ (l : List Hd) (k j : Nat), k < l.length → j < 10 → (hds l)[k * 10 + j]? = (hdc (hx l k))[j]?
  | p :: l, 0, j, _, hj => by rw [hds_cons, List.getElem?_append_left (by rw [hdc_len]; omega), Nat.zero_mul, Nat.zero_add]; rfl
  | p :: l, k + 1, j, h, hj => by
    have ih := hds_at l k j (by simpa using h) hj
    rw [hds_cons, List.getElem?_append_right (by rw [hdc_len]; omega), hdc_len, show (k + 1) * 10 + j - 10 = k * 10 + j from by omega, ih]
    rfl
theorem take_hd (l : List Hd) (k : Nat) (h : k < l.length) : l.take (k + 1) = l.take k ++ [hx l k] := by
  rw [List.take_succ_eq_append_getElem h]; unfold hx; rw [List.getD_eq_getElem?_getD, List.getElem?_eq_getElem h]; rfl
theorem hx_mem {l : List Hd} {k : Nat} (h : k < l.length) : hx l k ∈ l := by
  unfold hx; rw [List.getD_eq_getElem?_getD, List.getElem?_eq_getElem h]; exact List.getElem_mem h
theorem hd_at (a : Addr) (i j : Nat) (hj : 0 < j) : a.add (i + j) = ⟨(a.add i).block, (a.add i).off + j, none⟩ := by
  rw [← add_of_add]
  unfold Addr.add
  rw [if_neg (show ¬ j = 0 by omega)]
section
variable {w w' : World} {B n : Nat} {A : Option Addr}
theorem Reads.hd {l : List Hd} (h : Reads w B 10 A n (hds l)) {k : Nat} (hk : k < l.length) {a : Int} {eo : Bool} {ea eb et : Int} {oo : Bool} {oa ob ot f : Int} (e : hx l k = (a, (eo, ea, eb), et, (oo, oa, ob), ot, f)) :
    ∃ ad : Addr, A = some ad ∧ ad.block < B ∧ w.cell? (ad.add (k * 10)) = some (.int .i64 a) ∧
      w.cell? ⟨(ad.add (k * 10)).block, (ad.add (k * 10)).off + 1, none⟩ = some (.bool eo) ∧ w.cell? ⟨(ad.add (k * 10)).block, (ad.add (k * 10)).off + 2, none⟩ = some (.int .i64 ea) ∧
      w.cell? ⟨(ad.add (k * 10)).block, (ad.add (k * 10)).off + 3, none⟩ = some (.int .i64 eb) ∧ w.cell? ⟨(ad.add (k * 10)).block, (ad.add (k * 10)).off + 4, none⟩ = some (.int .i64 et) ∧
      w.cell? ⟨(ad.add (k * 10)).block, (ad.add (k * 10)).off + 5, none⟩ = some (.bool oo) ∧ w.cell? ⟨(ad.add (k * 10)).block, (ad.add (k * 10)).off + 6, none⟩ = some (.int .i64 oa) ∧
      w.cell? ⟨(ad.add (k * 10)).block, (ad.add (k * 10)).off + 7, none⟩ = some (.int .i64 ob) ∧ w.cell? ⟨(ad.add (k * 10)).block, (ad.add (k * 10)).off + 8, none⟩ = some (.int .i64 ot) ∧
      w.cell? ⟨(ad.add (k * 10)).block, (ad.add (k * 10)).off + 9, none⟩ = some (.int .i64 f) := by
  have hn : n = l.length := by have := h.1; rw [hds_len] at this; omega
  obtain ⟨ad, e0, hb, hc⟩ := h.2 (by omega)
  have H : ∀ j, 0 < j → j < 10 → ∀ v, (hdc (hx l k))[j]? = some v → w.cell? ⟨(ad.add (k * 10)).block, (ad.add (k * 10)).off + j, none⟩ = some v := fun j h0 hj v hv => by
    rw [← hd_at _ _ _ h0]; exact hc _ _ ((hds_at l k j hk hj).trans hv)
  have e1 : hdc (hx l k) = [.int .i64 a, .bool eo, .int .i64 ea, .int .i64 eb, .int .i64 et, .bool oo, .int .i64 oa, .int .i64 ob, .int .i64 ot, .int .i64 f] := by rw [e]; rfl
  rw [e1] at H
  refine ⟨ad, e0, hb, ?_, H 1 (by omega) (by omega) _ rfl, H 2 (by omega) (by omega) _ rfl, H 3 (by omega) (by omega) _ rfl, H 4 (by omega) (by omega) _ rfl, H 5 (by omega) (by omega) _ rfl, H 6 (by omega) (by omega) _ rfl, H 7 (by omega) (by omega) _ rfl, H 8 (by omega) (by omega) _ rfl, H 9 (by omega) (by omega) _ rfl⟩
  have h0 := hc (k * 10 + 0) (.int .i64 a) ((hds_at l k 0 hk (by omega)).trans (by rw [e1]; rfl))
  rwa [Nat.add_zero] at h0
end
/-! ### Receivers that are right -/
def kpt (r : Rp) (t : Int) (o : Bool) (m : Int) : Bool := if t = -1 then decide (r = (false, 0, 0)) else wi t 0 m && (decide (r.1 = o) && vR r.1 r.2.1 r.2.2)
def okH (m : Int) (h : Hd) : Bool := wi h.1 1 65535 && wi h.2.2.2.2.2 1 9999 && (kpt h.2.1 h.2.2.1 false m && kpt h.2.2.2.1 h.2.2.2.2.1 true m)
def ascH (l : List Hd) (i : Nat) : Prop := 0 < i → (hx l (i - 1)).1 < (hx l i).1
def okN (m : Int) (l : List Hd) (i : Nat) : Prop := ∀ j, j < i → okH m (hx l j) = true ∧ ascH l j
instance (l : List Hd) (i : Nat) : Decidable (ascH l i) := inferInstanceAs (Decidable (_ → _))
def okR (m : Int) (l : List Hd) : Bool := wi m 0 9999 && (decide (l.length ≤ 6) && (List.range l.length).all fun j => okH m (hx l j) && decide (ascH l j))
end Go.Proofs.Ytbeojfhakmbacaa
namespace Go.Proofs.Ytbeojfhakmbacaa
open Go.RowKit
theorem set_app (A B : List Value) (n j : Nat) (v : Value) (h : A.length = n) : (A ++ B).set (n + j) v = A ++ B.set j v := by
  rw [List.set_append_right _ _ (by omega), h, show n + j - n = j from by omega]
theorem cell_set_some {w : World} {p : Addr} {v : Value} (h : (w.cell? p).isSome = true) : (w.setCell p v).cell? p = some v := by
  obtain ⟨u, hu⟩ := Option.isSome_iff_exists.1 h
  exact World.cell?_setCell_same _ _ _ hu
theorem Reads.hd1 {w : World} {B n : Nat} {A : Option Addr} {l : List Hd} (h : Reads w B 10 A n (hds l)) {k : Nat} (hk : k < l.length) {a : Int} (e : (hx l k).1 = a) : ∃ ad : Addr, A = some ad ∧ ad.block < B ∧ w.cell? (ad.add (k * 10)) = some (.int .i64 a) := by
  obtain ⟨⟨a', ⟨eo, ea, eb⟩, et, ⟨oo, oa, ob⟩, ot, f⟩, he⟩ : ∃ q, hx l k = q := ⟨_, rfl⟩
  obtain ⟨ad, h0, hb, hc, _⟩ := h.hd hk he
  rw [he] at e
  have e2 : a' = a := e
  exact ⟨ad, h0, hb, by rw [← e2]; exact hc⟩
/-! ### Receivers that are right -/
theorem okN_zero {m : Int} {l : List Hd} : okN m l 0 := fun _ h => absurd h (by omega)
theorem okN_succ {m : Int} {l : List Hd} {i : Nat} (h : okN m l i) (h1 : okH m (hx l i) = true) (h2 : ascH l i) : okN m l (i + 1) := by
  intro j hj
  by_cases e : j = i
  · subst e; exact ⟨h1, h2⟩
  · exact h j (by omega)
theorem okR_min {m : Int} {l : List Hd} (h : wi m 0 9999 = false) : okR m l = false := by unfold okR; rw [h]; rfl
theorem okR_six {m : Int} {l : List Hd} (h : 6 < l.length) : okR m l = false := by unfold okR; rw [decide_eq_false (by omega)]; simp
theorem okR_bad {m : Int} {l : List Hd} {i : Nat} (hi : i < l.length) (h : ¬ (okH m (hx l i) = true ∧ ascH l i)) : okR m l = false := by
  unfold okR
  have e : ((List.range l.length).all fun j => okH m (hx l j) && decide (ascH l j)) = false := by
    rw [List.all_eq_false]
    refine ⟨i, List.mem_range.2 hi, fun k => h ?_⟩
    simpa using k
  rw [e]; simp
theorem okR_yes {m : Int} {l : List Hd} (h1 : wi m 0 9999 = true) (h2 : l.length ≤ 6) (h : okN m l l.length) : okR m l = true := by
  unfold okR
  have e : ((List.range l.length).all fun j => okH m (hx l j) && decide (ascH l j)) = true := by
    rw [List.all_eq_true]
    intro j hj
    have := h j (List.mem_range.1 hj)
    simpa using this
  rw [e, h1, decide_eq_true h2]; rfl
theorem okR_iff {m : Int} {l : List Hd} (h : okR m l = true) : wi m 0 9999 = true ∧ l.length ≤ 6 ∧ okN m l l.length := by
  unfold okR at h
  simp only [Bool.and_eq_true, decide_eq_true_eq, List.all_eq_true, List.mem_range] at h
  exact ⟨h.1, h.2.1, fun j hj => by simpa using h.2.2 j hj⟩
theorem okH_eq {m : Int} {l : List Hd} {i : Nat} {a : Int} {eo : Bool} {ea eb et : Int} {oo : Bool} {oa ob ot f : Int} (e : hx l i = (a, (eo, ea, eb), et, (oo, oa, ob), ot, f)) :
    okH m (hx l i) = (wi a 1 65535 && wi f 1 9999 && (kpt (eo, ea, eb) et false m && kpt (oo, oa, ob) ot true m)) := by rw [e]; rfl
theorem asc_zero {l : List Hd} : ascH l 0 := fun h => absurd h (by omega)
theorem asc_succ {l : List Hd} {k : Nat} {a a2 : Int} (e : (hx l (k + 1)).1 = a) (e2 : (hx l k).1 = a2) : ascH l (k + 1) ↔ a2 < a := by
  unfold ascH; rw [show k + 1 - 1 = k from rfl, e, e2]; exact ⟨fun h => h (by omega), fun h _ => h⟩
end Go.Proofs.Ytbeojfhakmbacaa
namespace Go.Proofs.Ytbeojfhakmbacaa
open Go.RowKit
theorem kpt_bd {r : Rp} {t : Int} {o : Bool} {m : Int} (h : kpt r t o m = true) : -1 ≤ t ∧ (t = -1 ∨ (0 ≤ t ∧ t ≤ m)) := by
  unfold kpt at h
  split at h
  · omega
  · simp only [Bool.and_eq_true] at h
    have := wi_iff.1 h.1
    omega
theorem okH_bd {m : Int} {l : List Hd} {i : Nat} {a : Int} {eo : Bool} {ea eb et : Int} {oo : Bool} {oa ob ot f : Int} (h : okR m l = true) (hi : i < l.length) (e : hx l i = (a, (eo, ea, eb), et, (oo, oa, ob), ot, f)) :
    ((0 ≤ m ∧ m ≤ 9999) ∧ 1 ≤ a ∧ a ≤ 65535) ∧ (1 ≤ f ∧ f ≤ 9999) ∧ (-1 ≤ et ∧ et ≤ m) ∧ -1 ≤ ot ∧ ot ≤ m := by
  obtain ⟨hm, _, hn⟩ := okR_iff h
  have h2 := (hn i hi).1
  rw [okH_eq e] at h2
  simp only [Bool.and_eq_true] at h2
  obtain ⟨⟨h3, h4⟩, h5, h6⟩ := h2
  have m1 := wi_iff.1 hm
  have m2 := wi_iff.1 h3
  have m3 := wi_iff.1 h4
  have m4 := kpt_bd h5
  have m5 := kpt_bd h6
  omega
def noL (l : List Hd) (x : Int) (i : Nat) : Prop := ∀ j, j < i → (hx l j).1 ≠ x
theorem noL_zero {l : List Hd} {x : Int} : noL l x 0 := fun _ h => absurd h (by omega)
theorem noL_succ {l : List Hd} {x : Int} {i : Nat} (h : noL l x i) (e : (hx l i).1 ≠ x) : noL l x (i + 1) := by
  intro j hj
  by_cases k : j = i
  · subst k; exact e
  · exact h j (by omega)
def fndF (l : List Hd) (x : Int) : Nat → Nat → Int
  | 0, _ => -1
  | n + 1, i => if (hx l i).1 = x then (i : Int) else fndF l x n (i + 1)
def fndV (l : List Hd) (x : Int) : Int := fndF l x l.length 0
theorem fndF_no {l : List Hd} {x : Int} : ∀ n i, (∀ j, i ≤ j → j < i + n → (hx l j).1 ≠ x) → fndF l x n i = -1
  | 0, _, _ => rfl
  | n + 1, i, h => by rw [fndF, if_neg (h i (by omega) (by omega))]; exact fndF_no n (i + 1) fun j h1 h2 => h j (by omega) (by omega)
theorem fndF_yes {l : List Hd} {x : Int} {k : Nat} (e : (hx l k).1 = x) : ∀ n i, i ≤ k → k < i + n → (∀ j, i ≤ j → j < k → (hx l j).1 ≠ x) → fndF l x n i = (k : Int)
  | 0, i, h1, h2, _ => by omega
  | n + 1, i, h1, h2, h => by
    rw [fndF]
    by_cases hk : i = k
    · subst hk; rw [if_pos e]
    · rw [if_neg (h i (by omega) (by omega))]; exact fndF_yes e n (i + 1) (by omega) (by omega) fun j h3 h4 => h j (by omega) h4
theorem fnd_some {l : List Hd} {x : Int} {i : Nat} (hi : i < l.length) (h : noL l x i) (e : (hx l i).1 = x) : fndV l x = (i : Int) := fndF_yes e _ _ (by omega) (by omega) fun j _ h2 => h j h2
theorem fnd_none {l : List Hd} {x : Int} (h : noL l x l.length) : fndV l x = -1 := fndF_no _ _ fun j _ h2 => h j (by omega)
theorem fndF_cases (l : List Hd) (x : Int) : ∀ n i, fndF l x n i = -1 ∨ ∃ k : Nat, i ≤ k ∧ k < i + n ∧ fndF l x n i = (k : Int)
  | 0, _ => .inl rfl
  | n + 1, i => by
    rw [fndF]
    split
    · exact .inr ⟨i, by omega, by omega, rfl⟩
    · rcases fndF_cases l x n (i + 1) with h | ⟨k, h1, h2, h3⟩
      · exact .inl h
      · exact .inr ⟨k, by omega, by omega, h3⟩
theorem fnd_cases (l : List Hd) (x : Int) : fndV l x = -1 ∨ ∃ k : Nat, k < l.length ∧ fndV l x = (k : Int) := by
  rcases fndF_cases l x l.length 0 with h | ⟨k, _, h2, h3⟩
  · exact .inl h
  · exact .inr ⟨k, by omega, h3⟩
/-! ### All frames -/
/-! ### What was heard of one -/
def hfK (m : Int) (l : List Hd) (x : Int) : Bool := okR m l && decide (0 ≤ fndV l x)
def hfV (m : Int) (l : List Hd) (x : Int) : Hd := if hfK m l x = true then hx l (fndV l x).toNat else nHd
theorem hf_none {m : Int} {l : List Hd} {x : Int} (h : fndV l x = -1) : hfK m l x = false ∧ hfV m l x = nHd := by
  have e : hfK m l x = false := by unfold hfK; rw [h]; simp
  exact ⟨e, by unfold hfV; rw [if_neg (by rw [e]; decide)]⟩
theorem hf_bad {m : Int} {l : List Hd} {x : Int} (h : okR m l = false) : hfK m l x = false ∧ hfV m l x = nHd := by
  have e : hfK m l x = false := by unfold hfK; rw [h]; rfl
  exact ⟨e, by unfold hfV; rw [if_neg (by rw [e]; decide)]⟩
theorem hf_some {m : Int} {l : List Hd} {x : Int} {k : Nat} {q : Hd} (h0 : okR m l = true) (h : fndV l x = (k : Int)) (e : hx l k = q) : hfK m l x = true ∧ hfV m l x = q := by
  have e2 : hfK m l x = true := by unfold hfK; rw [h0, h]; simp
  exact ⟨e2, by unfold hfV; rw [if_pos e2, h, Int.toNat_natCast, e]⟩
/-! ### Positions -/
def frs (t m : Int) : Bool := decide (0 ≤ t) && decide (m - t ≤ 10)
end Go.Proofs.Ytbeojfhakmbacaa
namespace Go.Proofs.Ytbeojfhakmbacaa
open Go.RowKit
/-! ### Time that passes -/
def psR (r : Rp) (a t : Int) : Rp := if frs a t = true then r else (false, 0, 0)
def psA (a t : Int) : Int := if frs a t = true then a else -1
def psH (t : Int) (h : Hd) : Hd := (h.1, psR h.2.1 h.2.2.1 t, psA h.2.2.1 t, psR h.2.2.2.1 h.2.2.2.2.1 t, psA h.2.2.2.2.1 t, h.2.2.2.2.2)
def psS (t : Int) (h : Hd) : List Hd := if frs h.2.2.1 t = true ∨ frs h.2.2.2.2.1 t = true then [psH t h] else []
def psL (t : Int) (l : List Hd) : List Hd := l.flatMap (psS t)
theorem psL_succ {t : Int} {l : List Hd} {i : Nat} (h : i < l.length) : psL t (l.take (i + 1)) = psL t (l.take i) ++ psS t (hx l i) := by rw [take_hd l i h]; simp [psL]
theorem psS_len (t : Int) (h : Hd) : (psS t h).length ≤ 1 := by unfold psS; split <;> simp
theorem psL_len (t : Int) : ∀ l : List Hd, (psL t l).length ≤ l.length
  | [] => Nat.le_refl _
  | h :: l => by
    have h1 := psL_len t l
    have h2 := psS_len t h
    show (psS t h ++ psL t l).length ≤ _
    rw [List.length_append, List.length_cons]; omega
def ptK (m : Int) (l : List Hd) (t : Int) : Bool := okR m l && (wi t 0 9999 && decide (m ≤ t))
def ptM (m : Int) (l : List Hd) (t : Int) : Int := if ptK m l t = true then t else 0
def ptV (m : Int) (l : List Hd) (t : Int) : List Hd := if ptK m l t = true then psL t l else []
theorem ptV_len (m : Int) (l : List Hd) (t : Int) : (ptV m l t).length ≤ l.length := by
  unfold ptV; split
  · exact psL_len t l
  · simp
theorem pt_no {m : Int} {l : List Hd} {t : Int} (h : ptK m l t = false) : ptK m l t = false ∧ ptM m l t = 0 ∧ ptV m l t = [] := ⟨h, by unfold ptM; rw [if_neg (by rw [h]; decide)], by unfold ptV; rw [if_neg (by rw [h]; decide)]⟩
theorem pt_yes {m : Int} {l : List Hd} {t : Int} (h : ptK m l t = true) : ptK m l t = true ∧ ptM m l t = t ∧ ptV m l t = psL t l := ⟨h, by unfold ptM; rw [if_pos h], by unfold ptV; rw [if_pos h]⟩
theorem frs_yes {a t : Int} (h : frs a t = true) : 0 ≤ a ∧ t - a ≤ 10 := by simpa [frs] using h
theorem frs_no {a t : Int} (h : frs a t = false) : a < 0 ∨ a < t - 10 := by
  unfold frs at h
  simp only [Bool.and_eq_false_iff, decide_eq_false_iff_not] at h
  omega
theorem ps_both {t a : Int} {q1 q2 : Rp} {et ot f : Int} {l : List Hd} {i : Nat} (e : hx l i = (a, q1, et, q2, ot, f)) (h1 : frs et t = true) (h2 : frs ot t = true) : psS t (hx l i) = [(a, q1, et, q2, ot, f)] := by
  rw [e]; unfold psS; rw [if_pos (.inl h1)]; unfold psH psR psA; simp [h1, h2]
theorem ps_even {t a : Int} {q1 q2 : Rp} {et ot f : Int} {l : List Hd} {i : Nat} (e : hx l i = (a, q1, et, q2, ot, f)) (h1 : frs et t = true) (h2 : frs ot t = false) : psS t (hx l i) = [(a, q1, et, (false, 0, 0), -1, f)] := by
  rw [e]; unfold psS; rw [if_pos (.inl h1)]; unfold psH psR psA; simp [h1, h2]
theorem ps_odd {t a : Int} {q1 q2 : Rp} {et ot f : Int} {l : List Hd} {i : Nat} (e : hx l i = (a, q1, et, q2, ot, f)) (h1 : frs et t = false) (h2 : frs ot t = true) : psS t (hx l i) = [(a, (false, 0, 0), -1, q2, ot, f)] := by
  rw [e]; unfold psS; rw [if_pos (.inr h2)]; unfold psH psR psA; simp [h1, h2]
theorem ps_none {t a : Int} {q1 q2 : Rp} {et ot f : Int} {l : List Hd} {i : Nat} (e : hx l i = (a, q1, et, q2, ot, f)) (h1 : frs et t = false) (h2 : frs ot t = false) : psS t (hx l i) = [] := by
  rw [e]; unfold psS; rw [if_neg]; rw [h1, h2]; simp
theorem kpt_none {r : Rp} {t : Int} {o : Bool} {m : Int} (h : kpt r t o m = true) (ht : t < 0) : t = -1 ∧ r = (false, 0, 0) := by
  unfold kpt at h
  split at h
  · rename_i e; exact ⟨e, by simpa using h⟩
  · simp only [Bool.and_eq_true] at h
    have := wi_iff.1 h.1
    omega
theorem okH_kpt {m : Int} {l : List Hd} {i : Nat} {a : Int} {q1 q2 : Rp} {et ot f : Int} (h : okR m l = true) (hi : i < l.length) (e : hx l i = (a, q1, et, q2, ot, f)) : kpt q1 et false m = true ∧ kpt q2 ot true m = true := by
  have h2 := ((okR_iff h).2.2 i hi).1
  rw [e] at h2
  unfold okH at h2
  simp only [Bool.and_eq_true] at h2
  exact h2.2
/-! ### Those with a position -/
end Go.Proofs.Ytbeojfhakmbacaa
namespace Go.Proofs.Ytbeojfhakmbacaa
open Go.RowKit
def str (l : List UInt8) : ByteArray := ⟨l.toArray⟩
theorem str_size (l : List UInt8) : (str l).size = l.length := by simp [str, ByteArray.size]
theorem str_list (l : List UInt8) : (str l).data.toList = l := by simp [str]
theorem str_app (a b : List UInt8) : str a ++ str b = str (a ++ b) := ByteArray.mk_append_mk a b
def bit (n : Int) : UInt8 := if n % 2 = 0 then 48 else 49
def bitsL (n : Int) : Nat → List UInt8
  | 0 => []
  | k + 1 => bit (n / 2 ^ k) :: bitsL n k
theorem bitsL_len (n : Int) : ∀ k, (bitsL n k).length = k
  | 0 => rfl
  | k + 1 => by simp [bitsL, bitsL_len n k]
def isB (l : List UInt8) : Prop := ∀ c ∈ l, c = 48 ∨ c = 49
theorem bit_isB (n : Int) : bit n = 48 ∨ bit n = 49 := by unfold bit; split <;> simp
theorem isB_nil : isB [] := fun _ h => by cases h
theorem isB_cons {c : UInt8} {l : List UInt8} (h : c = 48 ∨ c = 49) (hl : isB l) : isB (c :: l) := fun x hx => by
  rcases List.mem_cons.1 hx with e | e
  · rw [e]; exact h
  · exact hl x e
theorem isB_app {a b : List UInt8} (ha : isB a) (hb : isB b) : isB (a ++ b) := fun x hx => by
  rcases List.mem_append.1 hx with e | e
  · exact ha x e
  · exact hb x e
theorem bitsL_isB (n : Int) : ∀ k, isB (bitsL n k)
  | 0 => isB_nil
  | k + 1 => isB_cons (bit_isB _) (bitsL_isB n k)
def numL (l : List UInt8) : Int := l.foldl (fun a c => 2 * a + (c.toNat : Int) - 48) 0
theorem numL_snoc (l : List UInt8) (c : UInt8) : numL (l ++ [c]) = 2 * numL l + (c.toNat : Int) - 48 := by simp [numL]
theorem foldl_num (l : List UInt8) : ∀ a : Int, l.foldl (fun a c => 2 * a + (c.toNat : Int) - 48) a = a * 2 ^ l.length + numL l := by
  induction l with
  | nil => intro a; simp [numL]
  | cons c l ih =>
    intro a
    have e : numL (c :: l) = (2 * 0 + (c.toNat : Int) - 48) * 2 ^ l.length + numL l := by
      show List.foldl _ _ (c :: l) = _
      rw [List.foldl_cons, ih]
    rw [List.foldl_cons, ih, e, List.length_cons, Int.pow_succ]
    have : (2 * a + (c.toNat : Int) - 48) * 2 ^ l.length = a * (2 ^ l.length * 2) + (2 * 0 + (c.toNat : Int) - 48) * 2 ^ l.length := by
      rw [Int.mul_comm (2 ^ l.length) 2, ← Int.mul_assoc, Int.mul_comm a 2, ← Int.add_mul]
      congr 1
      omega
    omega
theorem numL_app (a b : List UInt8) : numL (a ++ b) = numL a * 2 ^ b.length + numL b := by
  show List.foldl _ _ (a ++ b) = _
  rw [List.foldl_append, foldl_num]; rfl
theorem numL_cons (c : UInt8) (l : List UInt8) : numL (c :: l) = ((c.toNat : Int) - 48) * 2 ^ l.length + numL l := by
  have h := numL_app [c] l
  rw [List.singleton_append] at h
  rw [h]; congr 2; simp [numL]
theorem numL_bd {l : List UInt8} (h : isB l) : 0 ≤ numL l ∧ numL l < 2 ^ l.length := by
  induction l with
  | nil => simp [numL]
  | cons c l ih =>
    have h1 := ih fun x hx => h x (List.mem_cons_of_mem _ hx)
    have h2 := h c List.mem_cons_self
    rw [numL_cons, List.length_cons, Int.pow_succ]
    generalize (2 : Int) ^ l.length = z at *
    have h48 : (UInt8.toNat 48 : Int) = 48 := rfl
    have h49 : (UInt8.toNat 49 : Int) = 49 := rfl
    rcases h2 with e | e <;> subst e
    · rw [h48]; omega
    · rw [h49]; omega
theorem bit_val (n : Int) : ((bit n).toNat : Int) - 48 = n % 2 := by
  unfold bit
  have h48 : (UInt8.toNat 48 : Int) = 48 := rfl
  have h49 : (UInt8.toNat 49 : Int) = 49 := rfl
  split
  · rw [h48]; omega
  · rw [h49]; omega
theorem take_snoc (s : ByteArray) (k : Nat) (h : k < s.size) : s.data.toList.take (k + 1) = s.data.toList.take k ++ [s[k]] := by
  rw [List.take_succ_eq_append_getElem (by simpa using h)]; rfl
theorem div_pow_succ (n : Int) (k : Nat) : n / 2 ^ k / 2 = n / 2 ^ (k + 1) := by
  rw [Int.pow_succ, Int.ediv_ediv_of_nonneg (Int.le_of_lt (Int.pow_pos (by omega)))]
end Go.Proofs.Ytbeojfhakmbacaa
namespace Go.Proofs.Ytbeojfhakmbacaa
def xr (a b : Int) : Int := ((a.toNat ^^^ b.toNat : Nat) : Int)
theorem i64_xor {a b : Int} (h1 : 0 ≤ a) (h2 : a < 1099511627776) (h3 : 0 ≤ b) (h4 : b < 1099511627776) : bits .xor .i64 a b = xr a b := by
  obtain ⟨A, rfl⟩ := Int.eq_ofNat_of_zero_le h1
  obtain ⟨B, rfl⟩ := Int.eq_ofNat_of_zero_le h3
  have hx : A ^^^ B < 2 ^ 40 := Nat.xor_lt_two_pow (by omega) (by omega)
  show IntKind.i64.wrap ((BitVec.ofInt 64 (A : Int) ^^^ BitVec.ofInt 64 (B : Int)).toNat : Int) = _
  have oA : (BitVec.ofInt 64 (A : Int)).toNat = A := by rw [BitVec.ofInt_natCast, BitVec.toNat_ofNat]; exact Nat.mod_eq_of_lt (by omega)
  have oB : (BitVec.ofInt 64 (B : Int)).toNat = B := by rw [BitVec.ofInt_natCast, BitVec.toNat_ofNat]; exact Nat.mod_eq_of_lt (by omega)
  rw [BitVec.toNat_xor, oA, oB, IntWalk.i64_in _ (by omega)]
  simp [xr]
def fgF : Nat → Int → Int → Int
  | 0, n, _ => n
  | f + 1, n, g => if g > 0 then fgF f (xr n g) (g / 2) else n
def fg (g : Int) : Int := fgF 11 0 g
def popL (n : Int) : Nat → Int
  | 0 => 0
  | k + 1 => (n / 2 ^ k) % 2 + popL n k
def onesL (l : List UInt8) : Int := (l.filter (· == 49)).length
def decOk (c : Int) : Bool := wi c 2048 4095 || (wi c 0 2047 && decide (fg c ≤ 1279))
def cbK (a b : Int) : Bool := decOk a && decOk b
def cb (a b : Int) : Int := if cbK a b = true then popL (xr a b) 12 else 0
end Go.Proofs.Ytbeojfhakmbacaa
namespace Go.Proofs.Ytbeojfhakmbacaa
def xorL : List UInt8 → List UInt8 → List UInt8
  | c :: a, d :: b => (if c = d then 48 else 49) :: xorL a b
  | _, _ => []
theorem xorL_len : ∀ (a b : List UInt8), (xorL a b).length = min a.length b.length
  | [], _ => by simp [xorL]
  | _ :: _, [] => by simp [xorL]
  | c :: a, d :: b => by simp [xorL, xorL_len a b]
theorem xorL_isB : ∀ (a b : List UInt8), isB (xorL a b)
  | [], _ => isB_nil
  | _ :: _, [] => isB_nil
  | c :: a, d :: b => isB_cons (by split <;> simp) (xorL_isB a b)
theorem xorL_snoc (a b : List UInt8) (c d : UInt8) (h : a.length = b.length) : xorL (a ++ [c]) (b ++ [d]) = xorL a b ++ [if c = d then 48 else 49] := by
  induction a generalizing b with
  | nil => cases b with
    | nil => rfl
    | cons _ _ => simp at h
  | cons x a ih => cases b with
    | nil => simp at h
    | cons y b => simp [xorL, ih b (by simpa using h)]
theorem take_snocL {l : List UInt8} {k : Nat} (h : k < l.length) : l.take (k + 1) = l.take k ++ [l[k]] := List.take_succ_eq_append_getElem h
theorem xorL_take (a b : List UInt8) : ∀ k, xorL (a.take k) (b.take k) = (xorL a b).take k := by
  induction a generalizing b with
  | nil => intro k; simp [xorL]
  | cons x a ih => cases b with
    | nil => intro k; cases k <;> simp [xorL]
    | cons y b => intro k; cases k with
      | zero => simp [xorL]
      | succ k => simp [xorL, ih b k]
theorem nat_xor_two (x y b d : Nat) (hb : b < 2) (hd : d < 2) : (2 * x + b) ^^^ (2 * y + d) = 2 * (x ^^^ y) + (b ^^^ d) := by
  have h2 : b ^^^ d < 2 := Nat.xor_lt_two_pow (n := 1) hb hd
  have e1 : ((2 * x + b) ^^^ (2 * y + d)) / 2 = x ^^^ y := by
    rw [Nat.xor_div_two, show (2 * x + b) / 2 = x from by omega, show (2 * y + d) / 2 = y from by omega]
  have e2 : ((2 * x + b) ^^^ (2 * y + d)) % 2 = b ^^^ d := by
    have := Nat.xor_mod_two_pow (a := 2 * x + b) (b := 2 * y + d) (n := 1)
    rw [Nat.pow_one, show (2 * x + b) % 2 = b from by omega, show (2 * y + d) % 2 = d from by omega] at this
    exact this
  omega
theorem isB_snoc {l : List UInt8} {c : UInt8} (h : isB (l ++ [c])) : isB l ∧ (c = 48 ∨ c = 49) := ⟨fun x hx => h x (List.mem_append_left _ hx), h c (by simp)⟩
theorem isB_take {l : List UInt8} (h : isB l) (k : Nat) : isB (l.take k) := fun x hx => h x (List.mem_of_mem_take hx)
theorem isB_drop {l : List UInt8} (h : isB l) (k : Nat) : isB (l.drop k) := fun x hx => h x (List.mem_of_mem_drop hx)
theorem c48 : (UInt8.toNat 48 : Int) = 48 := rfl
theorem c49 : (UInt8.toNat 49 : Int) = 49 := rfl
theorem xr_numL : ∀ (n : Nat) (a b : List UInt8), a.length = n → b.length = n → isB a → isB b → xr (numL a) (numL b) = numL (xorL a b)
  | 0, a, b, ha, hb, _, _ => by
    obtain rfl := List.eq_nil_of_length_eq_zero ha
    obtain rfl := List.eq_nil_of_length_eq_zero hb
    rfl
  | n + 1, a, b, ha, hb, iA, iB => by
    obtain ⟨a', c, rfl⟩ : ∃ a' c, a = a' ++ [c] := ⟨a.dropLast, a.getLast (by intro e; subst e; simp at ha), (List.dropLast_concat_getLast _).symm⟩
    obtain ⟨b', d, rfl⟩ : ∃ b' d, b = b' ++ [d] := ⟨b.dropLast, b.getLast (by intro e; subst e; simp at hb), (List.dropLast_concat_getLast _).symm⟩
    have la : a'.length = n := by simpa using ha
    have lb : b'.length = n := by simpa using hb
    obtain ⟨iA', hc⟩ := isB_snoc iA
    obtain ⟨iB', hd⟩ := isB_snoc iB
    have ih := xr_numL n a' b' la lb iA' iB'
    rw [xorL_snoc _ _ _ _ (by omega), numL_snoc, numL_snoc, numL_snoc, ← ih]
    obtain ⟨p0, _⟩ := numL_bd iA'
    obtain ⟨q0, _⟩ := numL_bd iB'
    generalize numL a' = p at p0 ⊢
    generalize numL b' = q at q0 ⊢
    obtain ⟨P, rfl⟩ := Int.eq_ofNat_of_zero_le p0
    obtain ⟨Q, rfl⟩ := Int.eq_ofNat_of_zero_le q0
    have key : ∀ b d : Nat, b < 2 → d < 2 → xr (2 * (P : Int) + b) (2 * (Q : Int) + d) = 2 * xr P Q + ((b ^^^ d : Nat) : Int) := by
      intro b d hb hd
      unfold xr
      rw [show (2 * (P : Int) + b).toNat = 2 * P + b from by omega, show (2 * (Q : Int) + d).toNat = 2 * Q + d from by omega, nat_xor_two _ _ _ _ hb hd]
      simp
    have k00 := key 0 0 (by omega) (by omega)
    have k01 := key 0 1 (by omega) (by omega)
    have k10 := key 1 0 (by omega) (by omega)
    have k11 := key 1 1 (by omega) (by omega)
    have s : ∀ z : Int, 2 * z + 48 - 48 = 2 * z + ((0 : Nat) : Int) := fun z => by omega
    have t : ∀ z : Int, 2 * z + 49 - 48 = 2 * z + ((1 : Nat) : Int) := fun z => by omega
    rcases hc with rfl | rfl <;> rcases hd with rfl | rfl <;> simp only [c48, c49, s, t, if_true] 
    · rw [k00]; simp [c48]
    · rw [k01]; simp [c49]; omega
    · rw [k10]; simp [c49]; omega
    · rw [k11]; simp [c48]
def dvL : List UInt8 := [49, 49, 48, 48, 48, 48, 48, 48, 48, 49, 49, 49, 49]
theorem dvL_num : numL dvL = 6159 := by decide
theorem dvL_isB : isB dvL := by unfold isB dvL; decide
def z12 : List UInt8 := List.replicate 12 48
theorem z12_isB : isB z12 := fun c h => .inl (List.eq_of_mem_replicate h)
theorem z12_bits : bitsL 0 12 = z12 := by decide
def dstep : List UInt8 → List UInt8
  | [] => []
  | c :: t => if c = 49 then xorL (t.take 12) (dvL.drop 1) ++ t.drop 12 else t
theorem dstep_cons (c : UInt8) (t : List UInt8) : dstep (c :: t) = if c = 49 then xorL (t.take 12) (dvL.drop 1) ++ t.drop 12 else t := rfl
def divN : Nat → List UInt8 → List UInt8
  | 0, l => l
  | n + 1, l => divN n (dstep l)
theorem divN_succ : ∀ (n : Nat) (l : List UInt8), divN (n + 1) l = dstep (divN n l)
  | 0, _ => rfl
  | n + 1, l => by rw [divN, divN_succ n]; rfl
theorem dstep_len {l : List UInt8} (h : 13 ≤ l.length) : (dstep l).length + 1 = l.length := by
  cases l with
  | nil => simp at h
  | cons c t =>
    rw [dstep_cons]
    have ht : 12 ≤ t.length := by simpa using h
    split
    · have hd : (dvL.drop 1).length = 12 := rfl
      rw [List.length_append, xorL_len, hd, List.length_take, List.length_drop, List.length_cons]; omega
    · simp
theorem dstep_isB {l : List UInt8} (h : isB l) : isB (dstep l) := by
  cases l with
  | nil => exact isB_nil
  | cons c t =>
    have ht : isB t := fun x hx => h x (List.mem_cons_of_mem _ hx)
    rw [dstep_cons]
    split
    · exact isB_app (xorL_isB _ _) (isB_drop ht _)
    · exact ht
theorem divN_isB : ∀ (n : Nat) {l : List UInt8}, isB l → isB (divN n l)
  | 0, _, h => h
  | n + 1, _, h => divN_isB n (dstep_isB h)
theorem divN_len : ∀ (n : Nat) {l : List UInt8}, n + 12 ≤ l.length → (divN n l).length + n = l.length
  | 0, _, _ => rfl
  | n + 1, l, h => by
    have h1 := dstep_len (l := l) (by omega)
    have h2 := divN_len n (l := dstep l) (by omega)
    rw [divN]; omega
def lstep (r : Int) (c : UInt8) : Int := if 2 * r + (if c = 49 then 1 else 0) ≥ 4096 then xr (2 * r + (if c = 49 then 1 else 0)) 6159 else 2 * r + (if c = 49 then 1 else 0)
def lfs (l : List UInt8) : Int := l.foldl lstep 0
theorem bit1 {c : UInt8} (h : c = 48 ∨ c = 49) : (c.toNat : Int) - 48 = if c = 49 then 1 else 0 := by rcases h with rfl | rfl <;> decide
theorem lfs_small : ∀ (l : List UInt8), isB l → l.length ≤ 12 → lfs l = numL l := by
  intro l
  induction hn : l.length generalizing l with
  | zero => intro _ _; obtain rfl := List.eq_nil_of_length_eq_zero hn; rfl
  | succ n ih =>
    intro hb hl
    obtain ⟨l', c, rfl⟩ : ∃ l' c, l = l' ++ [c] := ⟨l.dropLast, l.getLast (by intro e; subst e; simp at hn), (List.dropLast_concat_getLast _).symm⟩
    obtain ⟨hb', hc⟩ := isB_snoc hb
    have ln : l'.length = n := by simpa using hn
    have ih := ih l' ln hb' (by omega)
    have hB := numL_bd hb'
    have hB2 := numL_bd hb
    have hp : (2 : Int) ^ (l' ++ [c]).length ≤ 2 ^ 12 := by
      have h9 : (2 : Nat) ^ (l' ++ [c]).length ≤ 2 ^ 12 := Nat.pow_le_pow_right (by omega) (by simp; omega)
      have e9 : (((2 : Nat) ^ (l' ++ [c]).length : Nat) : Int) = (2 : Int) ^ (l' ++ [c]).length := by simp
      omega
    have hb1 := bit1 hc
    have e : lfs (l' ++ [c]) = lstep (lfs l') c := by simp [lfs]
    rw [e, ih, numL_snoc]
    rw [numL_snoc] at hB2
    unfold lstep
    rw [if_neg (by rw [← hb1]; omega), ← hb1]; omega
theorem div_lfs : ∀ (k : Nat) (l : List UInt8), isB l → l.length = k + 12 → numL (divN k l) = (l.drop 12).foldl lstep (numL (l.take 12))
  | 0, l, hb, hl => by
    rw [List.drop_of_length_le (by omega), List.take_of_length_le (by omega)]; rfl
  | k + 1, l, hb, hl => by
    cases l with
    | nil => simp at hl
    | cons c t =>
      have lt : t.length = k + 12 := by simpa using hl
      have ht : isB t := fun x hx => hb x (List.mem_cons_of_mem _ hx)
      have hc := hb c List.mem_cons_self
      have ih := div_lfs k (dstep (c :: t)) (dstep_isB hb) (by have := dstep_len (l := c :: t) (by simp; omega); simp at this; omega)
      rw [divN, ih]
      have h11 : 11 < t.length := by omega
      have e1 : (c :: t).take 12 = c :: t.take 11 := rfl
      have e2 : (c :: t).drop 12 = t[11] :: t.drop 12 := by
        rw [show (12 : Nat) = 11 + 1 from rfl, List.drop_succ_cons, List.drop_eq_getElem_cons h11]
      have e3 : t.take 12 = t.take 11 ++ [t[11]] := take_snocL h11
      have hbit := ht t[11] (List.getElem_mem h11)
      have hb1 := bit1 hbit
      have l11 : (t.take 11).length = 11 := by simp; omega
      have l12 : (t.take 12).length = 12 := by simp; omega
      have n12 : numL (t.take 12) = 2 * numL (t.take 11) + (if t[11] = 49 then 1 else 0) := by rw [e3, numL_snoc, ← hb1]; omega
      obtain ⟨b0, b1⟩ := numL_bd (isB_take ht 12)
      rw [l12] at b1
      have hd12 : (dvL.drop 1).length = 12 := rfl
      rw [e2, List.foldl_cons]
      have hdrop : (dstep (c :: t)).drop 12 = t.drop 12 := by
        rw [dstep_cons]
        split
        · rw [List.drop_append_of_le_length (by rw [xorL_len, l12, hd12]; simp), List.drop_of_length_le (by rw [xorL_len, l12, hd12]; simp)]; rfl
        · rfl
      rw [hdrop]
      congr 1
      rw [e1, numL_cons, l11]
      have pw : (2 : Int) ^ 11 = 2048 := rfl
      have pw2 : (2 : Int) ^ 12 = 4096 := rfl
      rw [pw]
      rw [pw2] at b1
      rcases hc with rfl | rfl
      · have : dstep ((48 : UInt8) :: t) = t := by rw [dstep_cons, if_neg (by decide)]
        rw [this]
        unfold lstep
        rw [c48, show ((48 : Int) - 48) * 2048 + numL (t.take 11) = numL (t.take 11) from by omega, if_neg (by omega), n12]
      · have : (dstep ((49 : UInt8) :: t)).take 12 = xorL (t.take 12) (dvL.drop 1) := by
          rw [dstep_cons, if_pos rfl, List.take_append_of_le_length (by rw [xorL_len, l12, hd12]; simp), List.take_of_length_le (by rw [xorL_len, l12, hd12]; simp)]
        rw [this]
        have hx := xr_numL 13 (49 :: t.take 12) dvL (by simp; omega) rfl (isB_cons (.inr rfl) (isB_take ht 12)) dvL_isB
        have hdv : dvL = 49 :: dvL.drop 1 := rfl
        rw [numL_cons, l12, pw2, c49, dvL_num] at hx
        have hx2 : xorL (49 :: t.take 12) dvL = 48 :: xorL (t.take 12) (dvL.drop 1) := by rw [hdv, xorL]; simp
        rw [hx2, numL_cons, c48] at hx
        unfold lstep
        rw [c49]
        have hr : 2 * ((49 - 48) * 2048 + numL (t.take 11)) + (if t[11] = 49 then 1 else 0) = (49 - 48) * 4096 + numL (t.take 12) := by rw [n12]; omega
        rw [hr, if_pos (by omega), hx]
        omega
def par (s : List UInt8) : Int := lfs (s ++ z12)
def parL (s : List UInt8) : List UInt8 := divN s.length (s ++ z12)
theorem par_len (s : List UInt8) : (parL s).length = 12 := by
  have := divN_len s.length (l := s ++ z12) (by simp [z12])
  unfold parL; simp [z12] at this ⊢; omega
theorem par_isB {s : List UInt8} (h : isB s) : isB (parL s) := divN_isB _ (isB_app h z12_isB)
theorem par_num {s : List UInt8} (h : isB s) : numL (parL s) = par s := by
  unfold parL par
  have hb := isB_app h z12_isB
  rw [div_lfs s.length (s ++ z12) hb (by simp [z12])]
  have h2 := lfs_small ((s ++ z12).take 12) (isB_take hb 12) (by simp; omega)
  rw [← h2]
  unfold lfs
  rw [← List.foldl_append, List.take_append_drop]
theorem par_bd {s : List UInt8} (h : isB s) : 0 ≤ par s ∧ par s < 4096 := by
  have h1 := numL_bd (par_isB h)
  rw [par_len, par_num h] at h1
  exact h1
theorem bits_num : ∀ {l : List UInt8}, isB l → bitsL (numL l) l.length = l
  | [], _ => rfl
  | c :: l, h => by
    have hl : isB l := fun x hx => h x (List.mem_cons_of_mem _ hx)
    have hc := h c List.mem_cons_self
    obtain ⟨b0, b1⟩ := numL_bd hl
    have ih := bits_num hl
    rw [List.length_cons, bitsL, numL_cons]
    have hp : (0 : Int) < 2 ^ l.length := Int.pow_pos (by omega)
    have e1 : (((c.toNat : Int) - 48) * 2 ^ l.length + numL l) / 2 ^ l.length = (c.toNat : Int) - 48 := by
      rw [Int.add_comm, Int.add_mul_ediv_right _ _ (by omega), Int.ediv_eq_zero_of_lt b0 b1]; omega
    rw [e1]
    have e2 : bit ((c.toNat : Int) - 48) = c := by rcases hc with rfl | rfl <;> rfl
    rw [e2]
    congr 1
    have h9 : ∀ (k : Nat), k ≤ l.length → bitsL (((c.toNat : Int) - 48) * 2 ^ l.length + numL l) k = bitsL (numL l) k := by
      intro k
      induction k with
      | zero => intro _; rfl
      | succ k ihk =>
        intro hk
        rw [bitsL, bitsL, ihk (by omega)]
        congr 1
        have e3 : (2 : Int) ^ l.length = 2 ^ k * (2 * 2 ^ (l.length - k - 1)) := by
          rw [← Int.mul_assoc, ← Int.pow_succ, ← Int.pow_add]; congr 1; omega
        have e4 : (((c.toNat : Int) - 48) * 2 ^ l.length + numL l) / 2 ^ k = numL l / 2 ^ k + 2 * (((c.toNat : Int) - 48) * 2 ^ (l.length - k - 1)) := by
          rw [e3, show ((c.toNat : Int) - 48) * (2 ^ k * (2 * 2 ^ (l.length - k - 1))) = (2 * (((c.toNat : Int) - 48) * 2 ^ (l.length - k - 1))) * 2 ^ k from by
            rw [Int.mul_comm (2 ^ k), ← Int.mul_assoc, ← Int.mul_assoc, Int.mul_comm ((c.toNat : Int) - 48) 2, Int.mul_assoc 2], Int.add_comm, Int.add_mul_ediv_right _ _ (Int.ne_of_gt (Int.pow_pos (by omega)))]
        rw [e4]
        unfold bit
        have e5 : (numL l / 2 ^ k + 2 * (((c.toNat : Int) - 48) * 2 ^ (l.length - k - 1))) % 2 = numL l / 2 ^ k % 2 := by omega
        rw [e5]
    rw [h9 _ (Nat.le_refl _), ih]
theorem parL_bits {s : List UInt8} (h : isB s) : bitsL (par s) 12 = parL s := by
  have := bits_num (par_isB h)
  rw [par_num h, par_len] at this
  exact this
theorem numL_inj {a b : List UInt8} (ha : isB a) (hb : isB b) (hl : a.length = b.length) (h : numL a = numL b) : a = b := by
  rw [← bits_num ha, ← bits_num hb, h, hl]
theorem xr_zero {a b : Int} (ha : 0 ≤ a) (hb : 0 ≤ b) : xr a b = 0 ↔ a = b := by
  unfold xr
  obtain ⟨A, rfl⟩ := Int.eq_ofNat_of_zero_le ha
  obtain ⟨B, rfl⟩ := Int.eq_ofNat_of_zero_le hb
  rw [Int.toNat_natCast, Int.toNat_natCast]
  constructor
  · intro h
    have h2 : A ^^^ B = 0 := by omega
    have h3 : A = B := by
      have e : (A ^^^ B) ^^^ B = A := by rw [Nat.xor_assoc, Nat.xor_self, Nat.xor_zero]
      rw [h2, Nat.zero_xor] at e
      exact e.symm
    rw [h3]
  · intro h
    have h3 : A = B := by omega
    rw [h3, Nat.xor_self]; rfl
def sdB (s : List UInt8) : Bool := decide (par (s.take (s.length - 12)) = numL (s.drop (s.length - 12)))
theorem onesL_xor : ∀ {a b : List UInt8}, a.length = b.length → (onesL (xorL a b) = 0 ↔ a = b)
  | [], [], _ => by simp [xorL, onesL]
  | [], _ :: _, h => by simp at h
  | _ :: _, [], h => by simp at h
  | c :: a, d :: b, h => by
    have ih := onesL_xor (a := a) (b := b) (by simpa using h)
    have hn : 0 ≤ onesL (xorL a b) := by unfold onesL; omega
    unfold xorL
    by_cases e : c = d
    · have : onesL ((if c = d then 48 else 49) :: xorL a b) = onesL (xorL a b) := by rw [if_pos e]; rfl
      rw [this, ih]; simp [e]
    · have : onesL ((if c = d then 48 else 49) :: xorL a b) = onesL (xorL a b) + 1 := by rw [if_neg e]; unfold onesL; simp
      rw [this]
      constructor
      · intro h; omega
      · intro h; exact absurd (List.cons.inj h).1 e
theorem sdB_ones {s : List UInt8} (h : isB s) (hl : 12 ≤ s.length) : (onesL (xorL (s.drop (s.length - 12)) (parL (s.take (s.length - 12)))) == 0) = sdB s := by
  have h1 := isB_take h (s.length - 12)
  have h2 := isB_drop h (s.length - 12)
  have ll : (s.drop (s.length - 12)).length = (parL (s.take (s.length - 12))).length := by rw [par_len]; simp; omega
  have hx := onesL_xor ll
  unfold sdB
  rw [← par_num h1]
  by_cases e : s.drop (s.length - 12) = parL (s.take (s.length - 12))
  · rw [hx.2 e, e]; simp
  · have hne : onesL (xorL (s.drop (s.length - 12)) (parL (s.take (s.length - 12)))) ≠ 0 := fun q => e (hx.1 q)
    rw [beq_eq_false_iff_ne.2 hne]
    exact (decide_eq_false fun q => e (numL_inj h2 (par_isB h1) ll q.symm)).symm
theorem sdB_xr {s : List UInt8} (h : isB s) : (xr (par (s.take (s.length - 12))) (numL (s.drop (s.length - 12))) == 0) = sdB s := by
  have h1 := par_bd (isB_take h (s.length - 12))
  have h2 := numL_bd (isB_drop h (s.length - 12))
  have hx := xr_zero h1.1 h2.1
  unfold sdB
  by_cases e : par (s.take (s.length - 12)) = numL (s.drop (s.length - 12))
  · rw [hx.2 e, decide_eq_true e]; rfl
  · rw [beq_eq_false_iff_ne.2 fun q => e (hx.1 q), decide_eq_false e]
def fbit (c : UInt8) : UInt8 := if c = 49 then 48 else 49
def flipL (s : List UInt8) (i : Nat) : List UInt8 := s.take i ++ fbit (s.getD i 0) :: s.drop (i + 1)
theorem fbit_isB (c : UInt8) : fbit c = 48 ∨ fbit c = 49 := by unfold fbit; split <;> simp
theorem flip_isB {s : List UInt8} (h : isB s) (i : Nat) : isB (flipL s i) := isB_app (isB_take h _) (isB_cons (fbit_isB _) (isB_drop h _))
theorem flip_len {s : List UInt8} {i : Nat} (h : i < s.length) : (flipL s i).length = s.length := by unfold flipL; simp; omega
def repI (s : List UInt8) : Option Nat := (List.range s.length).find? fun i => sdB (flipL s i)
def rpK (s : List UInt8) : Bool := sdB s || (repI s).isSome
def rpI (s : List UInt8) : Int := if sdB s = true then -1 else match repI s with | some i => i | none => 0
def rpS (s : List UInt8) : List UInt8 := if sdB s = true then s else match repI s with | some i => flipL s i | none => []
theorem repI_at {s : List UInt8} {i : Nat} (hi : i < s.length) (hno : ∀ j, j < i → sdB (flipL s j) = false) (hy : sdB (flipL s i) = true) : repI s = some i := by
  unfold repI
  rw [List.find?_range_eq_some]
  exact ⟨hy, by simpa using hi, fun j hj => by simp [hno j hj]⟩
theorem repI_none {s : List UInt8} (hno : ∀ j, j < s.length → sdB (flipL s j) = false) : repI s = none := by
  unfold repI
  rw [List.find?_eq_none]
  intro x hx
  simp [hno x (by simpa using hx)]
theorem rp_sound {s : List UInt8} (h : sdB s = true) : rpK s = true ∧ rpI s = -1 ∧ rpS s = s := ⟨by unfold rpK; rw [h]; rfl, by unfold rpI; rw [if_pos h], by unfold rpS; rw [if_pos h]⟩
theorem rp_at {s : List UInt8} {i : Nat} (h : sdB s = false) (hr : repI s = some i) : rpK s = true ∧ rpI s = i ∧ rpS s = flipL s i :=
  ⟨by unfold rpK; rw [hr]; simp, by unfold rpI; rw [if_neg (by rw [h]; simp), hr], by unfold rpS; rw [if_neg (by rw [h]; simp), hr]⟩
theorem rp_none {s : List UInt8} (h : sdB s = false) (hr : repI s = none) : rpK s = false ∧ rpI s = 0 ∧ rpS s = [] :=
  ⟨by unfold rpK; rw [h, hr]; rfl, by unfold rpI; rw [if_neg (by rw [h]; simp), hr], by unfold rpS; rw [if_neg (by rw [h]; simp), hr]⟩
theorem rp_len {s : List UInt8} (h : rpK s = true) : (rpS s).length = s.length := by
  rcases hs : sdB s with _ | _
  · rcases hr : repI s with _ | i
    · rw [(rp_none hs hr).1] at h; cases h
    · rw [(rp_at hs hr).2.2]
      unfold repI at hr
      rw [List.find?_range_eq_some] at hr
      exact flip_len (by simpa using hr.2.1)
  · rw [(rp_sound hs).2.2]
theorem rp_isB {s : List UInt8} (h : isB s) : isB (rpS s) := by
  rcases hs : sdB s with _ | _
  · rcases hr : repI s with _ | i
    · rw [(rp_none hs hr).2.2]; exact isB_nil
    · rw [(rp_at hs hr).2.2]; exact flip_isB h i
  · rw [(rp_sound hs).2.2]; exact h
/-! Frames. -/
def fKd (l : List UInt8) : Int := numL (l.take 4)
def fAd (l : List UInt8) : Int := numL ((l.drop 4).take 16)
def fDt (l : List UInt8) : Int := numL ((l.drop 20).take 24)
def vFr (k a d : Int) : Bool := wi k 1 4 && wi a 1 65535 && wi d 0 16777215
def frK (l : List UInt8) : Bool := vFr (fKd l) (fAd l) (fDt l)
/-! Hex texts. -/
def hexL : List UInt8 := [48, 49, 50, 51, 52, 53, 54, 55, 56, 57, 65, 66, 67, 68, 69, 70]
def hxp (c : UInt8) : Nat → Int
  | 0 => -1
  | k + 1 => if hexL.getD k 0 = c then (k : Int) else hxp c k
def hxd (c : UInt8) : Int := hxp c 16
theorem hxp_bd (c : UInt8) : ∀ k, -1 ≤ hxp c k ∧ hxp c k < k
  | 0 => by simp [hxp]
  | k + 1 => by have := hxp_bd c k; unfold hxp; split <;> omega
theorem hxd_bd (c : UInt8) : -1 ≤ hxd c ∧ hxd c < 16 := hxp_bd c 16
theorem hxd_at {i : Nat} (hi : i < 16) : hxd (hexL.getD i 0) = i := by
  have h : ∀ i : Fin 16, hxd (hexL.getD i.1 0) = (i.1 : Int) := by decide
  exact h ⟨i, hi⟩
theorem hxd_none {c : UInt8} (h : ∀ j, j < 16 → hexL.getD j 0 ≠ c) : hxd c = -1 := by
  have : ∀ k, k ≤ 16 → hxp c k = -1 := by
    intro k
    induction k with
    | zero => intro _; rfl
    | succ k ih => intro hk; rw [hxp, if_neg (h k (by omega)), ih (by omega)]
  exact this 16 (by omega)
def hxA (l : List UInt8) : List UInt8 := l.flatMap fun c => bitsL (hxd c) 4
def hxO (l : List UInt8) : Bool := l.all fun c => decide (0 ≤ hxd c)
theorem hxA_len (l : List UInt8) : (hxA l).length = 4 * l.length := by
  induction l with
  | nil => rfl
  | cons c l ih => unfold hxA at ih ⊢; rw [List.flatMap_cons, List.length_append, ih, bitsL_len]; simp; omega
theorem hxA_isB (l : List UInt8) : isB (hxA l) := by
  intro c hc
  unfold hxA at hc
  obtain ⟨d, _, hd⟩ := List.mem_flatMap.1 hc
  exact bitsL_isB _ _ c hd
theorem hxA_snoc (l : List UInt8) (c : UInt8) : hxA (l ++ [c]) = hxA l ++ bitsL (hxd c) 4 := by unfold hxA; simp
def hxK (s : ByteArray) : Bool := decide (s.size ≤ 16) && hxO s.data.toList
def hxB (s : ByteArray) : List UInt8 := if hxK s = true then hxA s.data.toList else []
theorem hxB_isB (s : ByteArray) : isB (hxB s) := by unfold hxB; split; exact hxA_isB _; exact isB_nil
theorem hxB_len (s : ByteArray) : (hxB s).length ≤ 64 := by
  unfold hxB
  split
  · rename_i h
    unfold hxK at h
    have h1 := of_decide_eq_true (Bool.and_eq_true_iff.1 h).1
    rw [hxA_len]
    have : s.data.toList.length = s.size := by simp
    omega
  · simp
theorem hxO_no {l : List UInt8} {i : Nat} (hi : i < l.length) (h : hxd l[i] < 0) : hxO l = false := by
  unfold hxO
  rw [List.all_eq_false]
  exact ⟨l[i], List.getElem_mem hi, by simp; omega⟩
theorem hxO_step {l : List UInt8} {i : Nat} (hi : i < l.length) (h0 : hxO (l.take i) = true) (h : 0 ≤ hxd l[i]) : hxO (l.take (i + 1)) = true := by
  rw [take_snocL hi]
  unfold hxO at h0 ⊢
  rw [List.all_append, h0]
  simp [h]
/-! A frame out of a hex text. -/
def rfK (s : ByteArray) : Bool := hxK s && decide ((hxB s).length = 56) && rpK (hxB s) && frK (rpS (hxB s))
def rfZ (s : ByteArray) (v : Int) : Int := if rfK s = true then v else 0
def rfKd (s : ByteArray) : Int := rfZ s (fKd (rpS (hxB s)))
def rfAd (s : ByteArray) : Int := rfZ s (fAd (rpS (hxB s)))
def rfDt (s : ByteArray) : Int := rfZ s (fDt (rpS (hxB s)))
def rfI (s : ByteArray) : Int := rfZ s (rpI (hxB s))
theorem rf_no {s : ByteArray} (h : rfK s = false) : rfKd s = 0 ∧ rfAd s = 0 ∧ rfDt s = 0 ∧ rfI s = 0 := by
  have hn : ¬ rfK s = true := by rw [h]; simp
  exact ⟨if_neg hn, if_neg hn, if_neg hn, if_neg hn⟩
theorem rf_yes {s : ByteArray} (h : rfK s = true) : rfKd s = fKd (rpS (hxB s)) ∧ rfAd s = fAd (rpS (hxB s)) ∧ rfDt s = fDt (rpS (hxB s)) ∧ rfI s = rpI (hxB s) := ⟨if_pos h, if_pos h, if_pos h, if_pos h⟩
end Go.Proofs.Ytbeojfhakmbacaa
namespace Go.Proofs.Ytbeojfhakmbacaa
open Go.RowKit
def nwH (A : Int) : Hd := (A, (false, 0, 0), -1, (false, 0, 0), -1, 0)
def rcI (A : Int) : List Hd → Nat
  | [] => 0
  | h :: l => if h.1 < A then rcI A l + 1 else 0
theorem hx_succ (h : Hd) (l : List Hd) (k : Nat) : hx (h :: l) (k + 1) = hx l k := rfl
theorem hx_zero (h : Hd) (l : List Hd) : hx (h :: l) 0 = h := rfl
theorem rcI_le (A : Int) : ∀ l, rcI A l ≤ l.length
  | [] => Nat.le_refl _
  | h :: l => by have := rcI_le A l; simp only [rcI, List.length_cons]; split <;> omega
theorem rcI_lt (A : Int) : ∀ (l : List Hd) (j : Nat), j < rcI A l → (hx l j).1 < A
  | [], j, h => by simp [rcI] at h
  | x :: l, j, h => by
    simp only [rcI] at h
    split at h
    · rename_i hx1
      cases j with
      | zero => exact hx1
      | succ j => rw [hx_succ]; exact rcI_lt A l j (by omega)
    · omega
theorem rcI_at (A : Int) : ∀ l : List Hd, rcI A l < l.length → ¬ (hx l (rcI A l)).1 < A
  | [], h => by simp [rcI] at h
  | x :: l, h => by
    by_cases hx1 : x.1 < A
    · have e : rcI A (x :: l) = rcI A l + 1 := by simp only [rcI]; rw [if_pos hx1]
      rw [e] at h ⊢
      rw [hx_succ]
      exact rcI_at A l (by simpa using h)
    · have e : rcI A (x :: l) = 0 := by simp only [rcI]; rw [if_neg hx1]
      rw [e, hx_zero]
      exact hx1
theorem rcI_eq {A : Int} {l : List Hd} {i : Nat} (hi : i ≤ l.length) (h1 : ∀ j, j < i → (hx l j).1 < A) (h2 : i < l.length → ¬ (hx l i).1 < A) : rcI A l = i := by
  rcases Nat.lt_trichotomy (rcI A l) i with h | h | h
  · exact absurd (h1 _ h) (rcI_at A l (by omega))
  · exact h
  · exact absurd (rcI_lt A l i h) (h2 (by have := rcI_le A l; omega))
theorem asc_lt {m : Int} {l : List Hd} (h : okR m l = true) : ∀ d i, i + d + 1 < l.length → (hx l i).1 < (hx l (i + d + 1)).1
  | 0, i, hi => by
    have := ((okR_iff h).2.2 (i + 1) hi).2 (by omega)
    simpa using this
  | d + 1, i, hi => by
    have a := asc_lt h d i (by omega)
    have b := ((okR_iff h).2.2 (i + d + 1 + 1) (by omega)).2 (by omega)
    have b2 : (hx l (i + d + 1)).1 < (hx l (i + d + 1 + 1)).1 := by simpa using b
    have e : i + (d + 1) + 1 = i + d + 1 + 1 := by omega
    rw [e]
    omega
theorem asc_at {m : Int} {l : List Hd} (h : okR m l = true) {i j : Nat} (hij : i < j) (hj : j < l.length) : (hx l i).1 < (hx l j).1 := by
  have := asc_lt h (j - i - 1) i (by omega)
  rwa [show i + (j - i - 1) + 1 = j from by omega] at this
def rcH (A : Int) (l : List Hd) : Prop := rcI A l < l.length ∧ (hx l (rcI A l)).1 = A
instance (A : Int) (l : List Hd) : Decidable (rcH A l) := inferInstanceAs (Decidable (_ ∧ _))
theorem fnd_yes {m : Int} {l : List Hd} {A : Int} (hk : rcH A l) : fndV l A = (rcI A l : Int) :=
  fnd_some hk.1 (fun j hj => by have := rcI_lt A l j hj; omega) hk.2
theorem no_of {m : Int} {l : List Hd} {A : Int} (h : okR m l = true) (hk : ¬ rcH A l) : ∀ j, j < l.length → (hx l j).1 ≠ A := by
  intro j hj e
  have hi : rcI A l = j := rcI_eq (by omega) (fun i hi => by have := asc_at h hi hj; omega) (fun _ => by omega)
  exact hk ⟨by omega, by rw [hi]; exact e⟩
theorem fnd_not {m : Int} {l : List Hd} {A : Int} (h : okR m l = true) (hk : ¬ rcH A l) : fndV l A = -1 := fnd_none (fun j hj => no_of h hk j hj)
def bubL (l : List Hd) (A : Int) (i : Nat) : List Hd := l.take i ++ nwH A :: l.drop i
theorem bub_len (l : List Hd) (A : Int) (i : Nat) : (bubL l A i).length = l.length + 1 := by simp [bubL]; omega
theorem bub_end (l : List Hd) (A : Int) : bubL l A l.length = l ++ [nwH A] := by simp [bubL]
theorem hx_app {a b : List Hd} {k : Nat} (h : a.length ≤ k) : hx (a ++ b) k = hx b (k - a.length) := by
  unfold hx; rw [List.getD_eq_getElem?_getD, List.getD_eq_getElem?_getD, List.getElem?_append_right h]
theorem hx_appl {a b : List Hd} {k : Nat} (h : k < a.length) : hx (a ++ b) k = hx a k := by
  unfold hx; rw [List.getD_eq_getElem?_getD, List.getD_eq_getElem?_getD, List.getElem?_append_left h]
theorem hx_take {l : List Hd} {i k : Nat} (h : k < i) : hx (l.take i) k = hx l k := by
  unfold hx; rw [List.getD_eq_getElem?_getD, List.getD_eq_getElem?_getD, List.getElem?_take, if_pos h]
theorem bub_at {l : List Hd} {A : Int} {i : Nat} (h : i ≤ l.length) : hx (bubL l A i) i = nwH A := by
  unfold bubL
  rw [hx_app (by rw [List.length_take]; omega), List.length_take, show i - min i l.length = 0 from by omega]
  rfl
theorem bub_low {l : List Hd} {A : Int} {i k : Nat} (h : i ≤ l.length) (hk : k < i) : hx (bubL l A i) k = hx l k := by
  unfold bubL
  rw [hx_appl (by rw [List.length_take]; omega), hx_take hk]
theorem drop_hx {l : List Hd} {i : Nat} (h : i < l.length) : l.drop i = hx l i :: l.drop (i + 1) := by
  rw [List.drop_eq_getElem_cons h]; unfold hx; rw [List.getD_eq_getElem?_getD, List.getElem?_eq_getElem h]; rfl
theorem set_at (a : List Hd) (x y : Hd) (b : List Hd) {i : Nat} (h : i = a.length) : (a ++ x :: b).set i y = a ++ y :: b := by subst h; simp
theorem bub_swap {l : List Hd} {A : Int} {j : Nat} (h : j < l.length) : ((bubL l A (j + 1)).set j (nwH A)).set (j + 1) (hx l j) = bubL l A j := by
  have e : bubL l A (j + 1) = l.take j ++ hx l j :: (nwH A :: l.drop (j + 1)) := by unfold bubL; rw [take_hd l j h]; simp
  have hl : j = (l.take j).length := by rw [List.length_take]; omega
  rw [e, set_at _ _ _ _ hl]
  have e2 : l.take j ++ nwH A :: (nwH A :: l.drop (j + 1)) = (l.take j ++ [nwH A]) ++ nwH A :: l.drop (j + 1) := by simp
  rw [e2, set_at _ _ _ _ (by rw [List.length_append, ← hl]; rfl)]
  unfold bubL
  rw [drop_hx h]
  simp
theorem bub_stop {m : Int} {l : List Hd} {A : Int} {i : Nat} (h : okR m l = true) (hk : ¬ rcH A l) (hi : i ≤ l.length) (h1 : ∀ j, i ≤ j → j < l.length → A < (hx l j).1) (h2 : 0 < i → ¬ A < (hx l (i - 1)).1) : rcI A l = i := by
  refine rcI_eq hi (fun j hj => ?_) (fun hl => by have := h1 i (Nat.le_refl _) hl; omega)
  have hn := no_of h hk
  have h3 : (hx l (i - 1)).1 < A := by have a := h2 (by omega); have b := hn (i - 1) (by omega); omega
  by_cases e : j = i - 1
  · rw [e]; exact h3
  · have := asc_at h (show j < i - 1 by omega) (by omega)
    omega
def rcB (A : Int) (l : List Hd) : List Hd := if rcH A l then l else bubL l A (rcI A l)
def upH (t K D : Int) (h : Hd) : Hd :=
  if upK D = true ∧ K = 2 then (if upO D = true then (h.1, h.2.1, h.2.2.1, (upO D, upA D, upB D), t, h.2.2.2.2.2 + 1) else (h.1, (upO D, upA D, upB D), t, h.2.2.2.1, h.2.2.2.2.1, h.2.2.2.2.2 + 1))
  else (h.1, h.2.1, h.2.2.1, h.2.2.2.1, h.2.2.2.2.1, h.2.2.2.2.2 + 1)
theorem rcB_at (A : Int) (l : List Hd) : rcI A l < (rcB A l).length := by
  unfold rcB
  split
  · rename_i h; exact h.1
  · rw [bub_len]; have := rcI_le A l; omega
theorem rcB_len (A : Int) (l : List Hd) : (rcB A l).length ≤ l.length + 1 := by
  unfold rcB; split
  · omega
  · rw [bub_len]; omega
def rcL (t A K D : Int) (l : List Hd) : List Hd := (rcB A l).set (rcI A l) (upH t K D (hx (rcB A l) (rcI A l)))
theorem rcL_len (t A K D : Int) (l : List Hd) : (rcL t A K D l).length ≤ l.length + 1 := by unfold rcL; rw [List.length_set]; exact rcB_len A l
def rvK (m : Int) (l : List Hd) (s : ByteArray) (t : Int) : Bool := rfK s && (decide (m ≤ t) && okR t (rcL t (rfAd s) (rfKd s) (rfDt s) l))
def rvM (m : Int) (l : List Hd) (s : ByteArray) (t : Int) : Int := if rvK m l s t = true then t else 0
def rvV (m : Int) (l : List Hd) (s : ByteArray) (t : Int) : List Hd := if rvK m l s t = true then rcL t (rfAd s) (rfKd s) (rfDt s) l else []
theorem rvV_len (m : Int) (l : List Hd) (s : ByteArray) (t : Int) : (rvV m l s t).length ≤ l.length + 1 := by
  unfold rvV; split
  · exact rcL_len _ _ _ _ _
  · simp
theorem rv_no {m : Int} {l : List Hd} {s : ByteArray} {t : Int} (h : rvK m l s t = false) : rvK m l s t = false ∧ rvM m l s t = 0 ∧ rvV m l s t = [] := ⟨h, by unfold rvM; rw [h]; rfl, by unfold rvV; rw [h]; rfl⟩
theorem rv_yes {m : Int} {l : List Hd} {s : ByteArray} {t : Int} (h : rvK m l s t = true) : rvK m l s t = true ∧ rvM m l s t = t ∧ rvV m l s t = rcL t (rfAd s) (rfKd s) (rfDt s) l := ⟨h, by unfold rvM; rw [if_pos h], by unfold rvV; rw [if_pos h]⟩
theorem rv_ok {m : Int} {l : List Hd} {s : ByteArray} {t : Int} (h : rvK m l s t = true) : okR (rvM m l s t) (rvV m l s t) = true := by
  obtain ⟨_, e1, e2⟩ := rv_yes h
  rw [e1, e2]
  unfold rvK at h
  simp only [Bool.and_eq_true] at h
  exact h.2.2
/-! ### Ten cells of a row set -/
theorem hds_parts {L : List Hd} {i : Nat} (hi : i < L.length) : hds L = hds (L.take i) ++ (hdc (hx L i) ++ hds (L.drop (i + 1))) ∧ (hds (L.take i)).length = i * 10 ∧ ∀ h, hds (L.set i h) = hds (L.take i) ++ (hdc h ++ hds (L.drop (i + 1))) := by
  have hl : i = (L.take i).length := by rw [List.length_take]; omega
  have e : L = L.take i ++ hx L i :: L.drop (i + 1) := by rw [← drop_hx hi, List.take_append_drop]
  refine ⟨?_, by rw [hds_len, ← hl], fun h => ?_⟩
  · conv => lhs; rw [e]
    rw [hds_app, hds_cons]
  · conv => lhs; rw [e]
    rw [set_at _ _ _ _ hl, hds_app, hds_cons]
theorem set_ten {L : List Hd} {i : Nat} (hi : i < L.length) (a : Int) (eo : Bool) (ea eb et : Int) (oo : Bool) (oa ob ot f : Int) :
    ((((((((((hds L).set (i * 10) (.int .i64 a)).set (i * 10 + 1) (.bool eo)).set (i * 10 + 2) (.int .i64 ea)).set (i * 10 + 3) (.int .i64 eb)).set (i * 10 + 4) (.int .i64 et)).set (i * 10 + 5) (.bool oo)).set (i * 10 + 6) (.int .i64 oa)).set (i * 10 + 7) (.int .i64 ob)).set (i * 10 + 8) (.int .i64 ot)).set (i * 10 + 9) (.int .i64 f)
      = hds (L.set i (a, (eo, ea, eb), et, (oo, oa, ob), ot, f)) := by
  obtain ⟨e, hl, es⟩ := hds_parts hi
  have h0 := fun (B : List Value) (v : Value) => set_app (hds (L.take i)) B (i * 10) 0 v hl
  simp only [Nat.add_zero] at h0
  rw [e, h0, set_app _ _ _ _ _ hl, set_app _ _ _ _ _ hl, set_app _ _ _ _ _ hl, set_app _ _ _ _ _ hl, set_app _ _ _ _ _ hl, set_app _ _ _ _ _ hl, set_app _ _ _ _ _ hl, set_app _ _ _ _ _ hl, set_app _ _ _ _ _ hl, es]
  rfl
theorem set_f {L : List Hd} {i : Nat} (hi : i < L.length) {a : Int} {eo : Bool} {ea eb et : Int} {oo : Bool} {oa ob ot f : Int} (e9 : hx L i = (a, (eo, ea, eb), et, (oo, oa, ob), ot, f)) (f2 : Int) :
    (hds L).set (i * 10 + 9) (.int .i64 f2) = hds (L.set i (a, (eo, ea, eb), et, (oo, oa, ob), ot, f2)) := by
  obtain ⟨e, hl, es⟩ := hds_parts hi
  rw [e, set_app _ _ _ _ _ hl, es, e9]
  rfl
theorem set_odd {L : List Hd} {i : Nat} (hi : i < L.length) {a : Int} {eo : Bool} {ea eb et : Int} {oo : Bool} {oa ob ot f : Int} (e9 : hx L i = (a, (eo, ea, eb), et, (oo, oa, ob), ot, f)) (o2 : Bool) (a2 b2 t2 : Int) :
    ((((hds L).set (i * 10 + 5) (.bool o2)).set (i * 10 + 6) (.int .i64 a2)).set (i * 10 + 7) (.int .i64 b2)).set (i * 10 + 8) (.int .i64 t2) = hds (L.set i (a, (eo, ea, eb), et, (o2, a2, b2), t2, f)) := by
  obtain ⟨e, hl, es⟩ := hds_parts hi
  rw [e, set_app _ _ _ _ _ hl, set_app _ _ _ _ _ hl, set_app _ _ _ _ _ hl, set_app _ _ _ _ _ hl, es, e9]
  rfl
theorem set_even {L : List Hd} {i : Nat} (hi : i < L.length) {a : Int} {eo : Bool} {ea eb et : Int} {oo : Bool} {oa ob ot f : Int} (e9 : hx L i = (a, (eo, ea, eb), et, (oo, oa, ob), ot, f)) (o2 : Bool) (a2 b2 t2 : Int) :
    ((((hds L).set (i * 10 + 1) (.bool o2)).set (i * 10 + 2) (.int .i64 a2)).set (i * 10 + 3) (.int .i64 b2)).set (i * 10 + 4) (.int .i64 t2) = hds (L.set i (a, (o2, a2, b2), t2, (oo, oa, ob), ot, f)) := by
  obtain ⟨e, hl, es⟩ := hds_parts hi
  rw [e, set_app _ _ _ _ _ hl, set_app _ _ _ _ _ hl, set_app _ _ _ _ _ hl, set_app _ _ _ _ _ hl, es, e9]
  rfl
end Go.Proofs.Ytbeojfhakmbacaa
namespace Go.Proofs.Ytbeojfhakmbacaa
open Go.RowKit
theorem frs_psA (a t : Int) : frs (psA a t) t = frs a t := by
  unfold psA
  by_cases h : frs a t = true
  · rw [if_pos h]
  · rw [if_neg h]
    rw [Bool.not_eq_true] at h
    rw [h]; rfl
theorem psA_psA (a t : Int) : psA (psA a t) t = psA a t := by
  show (if frs (psA a t) t = true then psA a t else -1) = psA a t
  rw [frs_psA]
  by_cases h : frs a t = true
  · rw [if_pos h]
  · rw [if_neg h]; unfold psA; rw [if_neg h]
theorem psR_psR (r : Rp) (a t : Int) : psR (psR r a t) (psA a t) t = psR r a t := by
  show (if frs (psA a t) t = true then psR r a t else (false, 0, 0)) = psR r a t
  rw [frs_psA]
  by_cases h : frs a t = true
  · rw [if_pos h]
  · rw [if_neg h]; unfold psR; rw [if_neg h]
theorem psH_psH (t : Int) (h : Hd) : psH t (psH t h) = psH t h := by
  show (h.1, psR (psR h.2.1 h.2.2.1 t) (psA h.2.2.1 t) t, psA (psA h.2.2.1 t) t, psR (psR h.2.2.2.1 h.2.2.2.2.1 t) (psA h.2.2.2.2.1 t) t, psA (psA h.2.2.2.2.1 t) t, h.2.2.2.2.2) = _
  rw [psR_psR, psR_psR, psA_psA, psA_psA]; rfl
theorem psS_yes {t : Int} {h : Hd} (c : frs h.2.2.1 t = true ∨ frs h.2.2.2.2.1 t = true) : psS t h = [psH t h] := by unfold psS; rw [if_pos c]
theorem psS_no {t : Int} {h : Hd} (c : ¬ (frs h.2.2.1 t = true ∨ frs h.2.2.2.2.1 t = true)) : psS t h = [] := by unfold psS; rw [if_neg c]
theorem psS_psH {t : Int} {h : Hd} (c : frs h.2.2.1 t = true ∨ frs h.2.2.2.2.1 t = true) : psS t (psH t h) = [psH t h] := by
  rw [psS_yes (h := psH t h) (by show frs (psA h.2.2.1 t) t = true ∨ frs (psA h.2.2.2.2.1 t) t = true; rw [frs_psA, frs_psA]; exact c), psH_psH]
theorem psL_cons (t : Int) (h : Hd) (l : List Hd) : psL t (h :: l) = psS t h ++ psL t l := rfl
theorem psL_psL (t : Int) : ∀ l, psL t (psL t l) = psL t l
  | [] => rfl
  | h :: l => by
    rw [psL_cons]
    by_cases c : frs h.2.2.1 t = true ∨ frs h.2.2.2.2.1 t = true
    · rw [psS_yes c]
      show psS t (psH t h) ++ psL t (psL t l) = _
      rw [psS_psH c, psL_psL t l]
    · rw [psS_no c]
      exact psL_psL t l
theorem ps_mem {t : Int} {l : List Hd} {x : Hd} (h : x ∈ psL t l) : ∃ y, y ∈ l ∧ x = psH t y ∧ (frs y.2.2.1 t = true ∨ frs y.2.2.2.2.1 t = true) := by
  obtain ⟨y, hy, hx⟩ := List.mem_flatMap.1 h
  by_cases c : frs y.2.2.1 t = true ∨ frs y.2.2.2.2.1 t = true
  · rw [psS_yes c] at hx
    exact ⟨y, hy, by simpa using hx, c⟩
  · rw [psS_no c] at hx
    cases hx
theorem ps_pw (t : Int) : ∀ l : List Hd, l.Pairwise (fun a b => a.1 < b.1) → (psL t l).Pairwise (fun a b => a.1 < b.1)
  | [], _ => List.Pairwise.nil
  | h :: l, hp => by
    rw [List.pairwise_cons] at hp
    rw [psL_cons]
    by_cases c : frs h.2.2.1 t = true ∨ frs h.2.2.2.2.1 t = true
    · rw [psS_yes c]
      show (psH t h :: psL t l).Pairwise _
      rw [List.pairwise_cons]
      exact ⟨fun x hx => by obtain ⟨y, hy, e, _⟩ := ps_mem hx; rw [e]; exact hp.1 y hy, ps_pw t l hp.2⟩
    · rw [psS_no c]
      exact ps_pw t l hp.2
theorem hx_get {l : List Hd} {k : Nat} (h : k < l.length) : hx l k = l[k] := by
  unfold hx; rw [List.getD_eq_getElem?_getD, List.getElem?_eq_getElem h]; rfl
theorem kpt_ps {r : Rp} {a : Int} {o : Bool} {m t : Int} (h : kpt r a o m = true) (hm : m ≤ t) : kpt (psR r a t) (psA a t) o t = true := by
  unfold psR psA
  by_cases c : frs a t = true
  · rw [if_pos c, if_pos c]
    obtain ⟨a0, _⟩ := frs_yes c
    unfold kpt at h ⊢
    rw [if_neg (by omega)] at h ⊢
    simp only [Bool.and_eq_true] at h ⊢
    obtain ⟨h1, h2⟩ := h
    have h3 := wi_iff.1 h1
    exact ⟨wi_iff.2 (by omega), h2⟩
  · rw [if_neg c, if_neg c]; rfl
theorem ps_okR {m t : Int} {l : List Hd} (h : okR m l = true) (hw : wi t 0 9999 = true) (hm : m ≤ t) : okR t (psL t l) = true := by
  obtain ⟨_, h6, hn⟩ := okR_iff h
  have hlen := psL_len t l
  have pw : (psL t l).Pairwise (fun a b => a.1 < b.1) := ps_pw t l (List.pairwise_iff_getElem.2 fun i j hi hj hij => by
    have h9 := asc_at h hij hj
    rw [hx_get hi, hx_get hj] at h9
    exact h9)
  refine okR_yes hw (by omega) fun j hj => ⟨?_, fun h0 => ?_⟩
  · obtain ⟨y, hy, e, _⟩ := ps_mem (hx_mem hj)
    obtain ⟨i, hi, hiy⟩ := List.mem_iff_getElem.1 hy
    have h9 := (hn i hi).1
    rw [hx_get hi, hiy] at h9
    rw [e]
    unfold okH at h9 ⊢
    simp only [Bool.and_eq_true] at h9 ⊢
    exact ⟨⟨h9.1.1, h9.1.2⟩, kpt_ps h9.2.1 hm, kpt_ps h9.2.2 hm⟩
  · have h9 := List.pairwise_iff_getElem.1 pw (j - 1) j (by omega) hj (by omega)
    rw [hx_get hj, hx_get (show j - 1 < (psL t l).length by omega)]
    exact h9
theorem pt_facts {m : Int} {l : List Hd} {t M : Int} {V : List Hd} (h : ptK m l t = true) (hM : ptM m l t = M) (hV : ptV m l t = V) :
    M = t ∧ (0 ≤ t ∧ t ≤ 9999) ∧ okR M V = true ∧ (ptK M V t = true ∧ ptM M V t = M ∧ ptV M V t = V) ∧ V.length ≤ l.length ∧
      ∀ (i : Nat) (a : Int) (eo : Bool) (ea eb et : Int) (oo : Bool) (oa ob ot f : Int), i < V.length → hx V i = (a, (eo, ea, eb), et, (oo, oa, ob), ot, f) →
        (et = -1 ∨ (0 ≤ et ∧ t - 10 ≤ et)) ∧ (ot = -1 ∨ (0 ≤ ot ∧ t - 10 ≤ ot)) ∧ ¬ (et = -1 ∧ ot = -1) := by
  obtain ⟨_, e1, e2⟩ := pt_yes h
  rw [e1] at hM
  rw [e2] at hV
  subst hM hV
  unfold ptK at h
  simp only [Bool.and_eq_true, decide_eq_true_eq] at h
  obtain ⟨h1, h2, h3⟩ := h
  have hok := ps_okR h1 h2 h3
  have hk : ptK t (psL t l) t = true := by
    unfold ptK
    rw [hok, h2, decide_eq_true (Int.le_refl t)]; rfl
  obtain ⟨_, f1, f2⟩ := pt_yes hk
  rw [psL_psL] at f2
  refine ⟨rfl, wi_iff.1 h2, hok, ⟨hk, f1, f2⟩, psL_len t l, ?_⟩
  intro i a eo ea eb et oo oa ob ot f hi e
  obtain ⟨y, _, ey, c⟩ := ps_mem (hx_mem hi)
  rw [e] at ey
  have g1 : et = psA y.2.2.1 t := congrArg (fun q : Hd => q.2.2.1) ey
  have g2 : ot = psA y.2.2.2.2.1 t := congrArg (fun q : Hd => q.2.2.2.2.1) ey
  have key : ∀ q : Int, (frs q t = true ∧ psA q t = q ∧ 0 ≤ q ∧ t - 10 ≤ q) ∨ (frs q t = false ∧ psA q t = -1) := fun q => by
    rcases k : frs q t with _ | _
    · exact .inr ⟨rfl, by unfold psA; rw [k]; rfl⟩
    · obtain ⟨k1, k2⟩ := frs_yes k
      exact .inl ⟨rfl, by unfold psA; rw [if_pos k], k1, by omega⟩
  rcases key y.2.2.1 with ⟨k1, k2, k3, k4⟩ | ⟨k1, k2⟩ <;> rcases key y.2.2.2.2.1 with ⟨k5, k6, k7, k8⟩ | ⟨k5, k6⟩
  · rw [g1, g2, k2, k6]; omega
  · rw [g1, g2, k2, k6]; omega
  · rw [g1, g2, k2, k6]; omega
  · rw [k1, k5] at c; rcases c with c | c <;> cases c
end Go.Proofs.Ytbeojfhakmbacaa
