/- What is proved here is used by the law below: contracts of functions and plain lemmas (part 1 of 17). Their conditions stand in each. -/
import Derived.WalkKit
import Derived.WalkSpells
import Derived.WalkLawsBesides
import Derived.Handy
import Derived.ProofKit
import Derived.SizedLaws
import Derived.Deep.AppendLies
import Derived.Deep.Draws
import Derived.Deep.Slices
import Derived.Deep.Fields
import Derived.Lib.SmallJoins
import Derived.SliceStrings
import Derived.Test.YtbeojfhakmbacaaRows
import Derived.Orders
import Derived.RegionTactic
import Derived.BigCall
namespace Go.Proofs.Ytbeojfhakmbacaa
theorem zp1 {α : Type _} (l : List α) (i : Nat) (a : α) : l.toArray.setIfInBounds i a = (l.set i a).toArray := List.setIfInBounds_toArray ..
theorem zp2 {α : Type _} (l : List α) (x y : α) : (x :: l).set 0 y = y :: l := rfl
theorem zp3 {α : Type _} (l : List α) (x y : α) (n : Nat) : (x :: l).set (n + 1) y = x :: l.set n y := rfl
end Go.Proofs.Ytbeojfhakmbacaa
namespace Go.Proofs.Ytbeojfhakmbacaa
open Go.RowKit Go.WideShapes Go.ChangeShapes Go.ChangeAt Go.Joins Go.Deep
/-! ### Slices that read as a list -/
theorem block_of_add (a : Addr) (n : Nat) : (a.add n).block = a.block := by unfold Addr.add; split <;> rfl
theorem add_of_add (a : Addr) (i j : Nat) : (a.add i).add j = a.add (i + j) := by
  unfold Addr.add
  by_cases hi : i = 0 <;> by_cases hj : j = 0 <;> simp [hi, hj, Nat.add_assoc]
def Reads (w : World) (B size : Nat) (A : Option Addr) (n : Nat) (xs : List Value) : Prop :=
  xs.length = n * size ∧ (0 < n → ∃ ad, A = some ad ∧ ad.block < B ∧ ∀ j u, xs[j]? = some u → w.cell? (ad.add j) = some u)
section
variable {w w' : World} {B B' size n : Nat} {A : Option Addr} {xs : List Value}
theorem Reads.keep (h : Reads w B size A n xs) (hk : ∀ p : Addr, p.block < B → w'.cell? p = w.cell? p) : Reads w' B size A n xs :=
  ⟨h.1, fun hn => by
    obtain ⟨ad, e, hb, hc⟩ := h.2 hn
    exact ⟨ad, e, hb, fun j u hu => (hk _ (by rw [block_of_add]; exact hb)).trans (hc j u hu)⟩⟩
theorem Reads.more (h : Reads w B size A n xs) (hB : B ≤ B') : Reads w B' size A n xs :=
  ⟨h.1, fun hn => by
    obtain ⟨ad, e, hb, hc⟩ := h.2 hn
    exact ⟨ad, e, by omega, hc⟩⟩
theorem Reads.below (h : Reads w B size A n xs) (hb : Below B w w') : Reads w' B size A n xs := h.keep fun _ hp => hb.cell hp
theorem Reads.drew (h : Reads w B size A n xs) : Reads w.drew B size A n xs := h
theorem Reads.alloc (h : Reads w B size A n xs) (hB : B ≤ w.heap.size) (o : Obj) : Reads (w.alloc o) B size A n xs := h.keep fun p hp => World.cell?_alloc_lt w o p (by omega)
theorem Reads.setCell (h : Reads w B size A n xs) {p : Addr} (hB : B ≤ p.block) (u : Value) : Reads (w.setCell p u) B size A n xs :=
  h.keep fun q hq => World.cell?_setCell_other w p q u (fun e => by subst e; omega)
theorem Reads.grown (h : Reads w B size A n xs) {row : Option Nat} (hg : w.grownBy w' row) (hB : B ≤ w.heap.size) (hr : ∀ g, row = some g → B ≤ g) : Reads w' B size A n xs :=
  h.keep fun p hp => World.cell?_of_block (hg.block p.block (by omega) (fun e => by have := hr _ e.symm; omega))
theorem Reads.of_own {base : Nat} {e : TypeId} {c : Nat} (h : w.ownsRow base e size (.slice A n c) n xs) : Reads w w.heap.size size A n xs := by
  refine ⟨h.1, fun hn => ?_⟩
  obtain ⟨g, cap, hv, _, hlt⟩ := h.form hn
  have hA : A = some ⟨g, 0, none⟩ := by injection hv
  subst hA
  exact ⟨_, rfl, hlt, h.cells (g := g) rfl⟩
end
/-! ### What a world keeps -/
theorem keep_cell {W w1 : World} {p : Addr} {u : Value} (hb : Below W.heap.size W w1) (h : W.cell? p = some u) : w1.cell? p = some u := (hb.cell (World.block_lt_of_cell? W p h)).trans h
theorem keep_fre {W w1 : World} {g : Nat} (hb : Below W.heap.size W w1) (h : g < W.heap.size ∧ ∀ i, W.frozen? ⟨g, i, none⟩ = false) : g < w1.heap.size ∧ ∀ i, w1.frozen? ⟨g, i, none⟩ = false :=
  ⟨Nat.lt_of_lt_of_le h.1 hb.size, fun i => (hb.frozen (p := ⟨g, i, none⟩) h.1).trans (h.2 i)⟩
theorem keep0 {w W w1 : World} (h : Below w.heap.size w W) (hb : Below W.heap.size W w1) : Below w.heap.size w w1 :=
  h.trans (hb.mono h.size)
theorem keep3 {w W w1 : World} {p0 p1 p2 : Addr} {u0 u1 u2 : Value} (h : W.cell? p0 = some u0 ∧ W.cell? p1 = some u1 ∧ W.cell? p2 = some u2 ∧ Below w.heap.size w W) (hb : Below W.heap.size W w1) : w1.cell? p0 = some u0 ∧ w1.cell? p1 = some u1 ∧ w1.cell? p2 = some u2 ∧ Below w.heap.size w w1 :=
  ⟨keep_cell hb h.1, keep_cell hb h.2.1, keep_cell hb h.2.2.1, h.2.2.2.trans (hb.mono h.2.2.2.size)⟩
theorem keep5_1 {w W w1 : World} {p0 p1 p2 p3 p4 : Addr} {u0 u1 u2 u3 u4 : Value} {g0 : Nat} (h : W.cell? p0 = some u0 ∧ W.cell? p1 = some u1 ∧ W.cell? p2 = some u2 ∧ W.cell? p3 = some u3 ∧ W.cell? p4 = some u4 ∧ (g0 < W.heap.size ∧ ∀ i, W.frozen? ⟨g0, i, none⟩ = false) ∧ Below w.heap.size w W) (hb : Below W.heap.size W w1) : w1.cell? p0 = some u0 ∧ w1.cell? p1 = some u1 ∧ w1.cell? p2 = some u2 ∧ w1.cell? p3 = some u3 ∧ w1.cell? p4 = some u4 ∧ (g0 < w1.heap.size ∧ ∀ i, w1.frozen? ⟨g0, i, none⟩ = false) ∧ Below w.heap.size w w1 :=
  ⟨keep_cell hb h.1, keep_cell hb h.2.1, keep_cell hb h.2.2.1, keep_cell hb h.2.2.2.1, keep_cell hb h.2.2.2.2.1, keep_fre hb h.2.2.2.2.2.1, h.2.2.2.2.2.2.trans (hb.mono h.2.2.2.2.2.2.size)⟩
theorem keep6_1 {w W w1 : World} {p0 p1 p2 p3 p4 p5 : Addr} {u0 u1 u2 u3 u4 u5 : Value} {g0 : Nat} (h : W.cell? p0 = some u0 ∧ W.cell? p1 = some u1 ∧ W.cell? p2 = some u2 ∧ W.cell? p3 = some u3 ∧ W.cell? p4 = some u4 ∧ W.cell? p5 = some u5 ∧ (g0 < W.heap.size ∧ ∀ i, W.frozen? ⟨g0, i, none⟩ = false) ∧ Below w.heap.size w W) (hb : Below W.heap.size W w1) : w1.cell? p0 = some u0 ∧ w1.cell? p1 = some u1 ∧ w1.cell? p2 = some u2 ∧ w1.cell? p3 = some u3 ∧ w1.cell? p4 = some u4 ∧ w1.cell? p5 = some u5 ∧ (g0 < w1.heap.size ∧ ∀ i, w1.frozen? ⟨g0, i, none⟩ = false) ∧ Below w.heap.size w w1 :=
  ⟨keep_cell hb h.1, keep_cell hb h.2.1, keep_cell hb h.2.2.1, keep_cell hb h.2.2.2.1, keep_cell hb h.2.2.2.2.1, keep_cell hb h.2.2.2.2.2.1, keep_fre hb h.2.2.2.2.2.2.1, h.2.2.2.2.2.2.2.trans (hb.mono h.2.2.2.2.2.2.2.size)⟩
theorem keep8_1 {w W w1 : World} {p0 p1 p2 p3 p4 p5 p6 p7 : Addr} {u0 u1 u2 u3 u4 u5 u6 u7 : Value} {g0 : Nat} (h : W.cell? p0 = some u0 ∧ W.cell? p1 = some u1 ∧ W.cell? p2 = some u2 ∧ W.cell? p3 = some u3 ∧ W.cell? p4 = some u4 ∧ W.cell? p5 = some u5 ∧ W.cell? p6 = some u6 ∧ W.cell? p7 = some u7 ∧ (g0 < W.heap.size ∧ ∀ i, W.frozen? ⟨g0, i, none⟩ = false) ∧ Below w.heap.size w W) (hb : Below W.heap.size W w1) : w1.cell? p0 = some u0 ∧ w1.cell? p1 = some u1 ∧ w1.cell? p2 = some u2 ∧ w1.cell? p3 = some u3 ∧ w1.cell? p4 = some u4 ∧ w1.cell? p5 = some u5 ∧ w1.cell? p6 = some u6 ∧ w1.cell? p7 = some u7 ∧ (g0 < w1.heap.size ∧ ∀ i, w1.frozen? ⟨g0, i, none⟩ = false) ∧ Below w.heap.size w w1 :=
  ⟨keep_cell hb h.1, keep_cell hb h.2.1, keep_cell hb h.2.2.1, keep_cell hb h.2.2.2.1, keep_cell hb h.2.2.2.2.1, keep_cell hb h.2.2.2.2.2.1, keep_cell hb h.2.2.2.2.2.2.1, keep_cell hb h.2.2.2.2.2.2.2.1, keep_fre hb h.2.2.2.2.2.2.2.2.1, h.2.2.2.2.2.2.2.2.2.trans (hb.mono h.2.2.2.2.2.2.2.2.2.size)⟩
theorem keep8_2 {w W w1 : World} {p0 p1 p2 p3 p4 p5 p6 p7 : Addr} {u0 u1 u2 u3 u4 u5 u6 u7 : Value} {g0 g1 : Nat} (h : W.cell? p0 = some u0 ∧ W.cell? p1 = some u1 ∧ W.cell? p2 = some u2 ∧ W.cell? p3 = some u3 ∧ W.cell? p4 = some u4 ∧ W.cell? p5 = some u5 ∧ W.cell? p6 = some u6 ∧ W.cell? p7 = some u7 ∧ (g0 < W.heap.size ∧ ∀ i, W.frozen? ⟨g0, i, none⟩ = false) ∧ (g1 < W.heap.size ∧ ∀ i, W.frozen? ⟨g1, i, none⟩ = false) ∧ Below w.heap.size w W) (hb : Below W.heap.size W w1) : w1.cell? p0 = some u0 ∧ w1.cell? p1 = some u1 ∧ w1.cell? p2 = some u2 ∧ w1.cell? p3 = some u3 ∧ w1.cell? p4 = some u4 ∧ w1.cell? p5 = some u5 ∧ w1.cell? p6 = some u6 ∧ w1.cell? p7 = some u7 ∧ (g0 < w1.heap.size ∧ ∀ i, w1.frozen? ⟨g0, i, none⟩ = false) ∧ (g1 < w1.heap.size ∧ ∀ i, w1.frozen? ⟨g1, i, none⟩ = false) ∧ Below w.heap.size w w1 :=
  ⟨keep_cell hb h.1, keep_cell hb h.2.1, keep_cell hb h.2.2.1, keep_cell hb h.2.2.2.1, keep_cell hb h.2.2.2.2.1, keep_cell hb h.2.2.2.2.2.1, keep_cell hb h.2.2.2.2.2.2.1, keep_cell hb h.2.2.2.2.2.2.2.1, keep_fre hb h.2.2.2.2.2.2.2.2.1, keep_fre hb h.2.2.2.2.2.2.2.2.2.1, h.2.2.2.2.2.2.2.2.2.2.trans (hb.mono h.2.2.2.2.2.2.2.2.2.2.size)⟩
theorem below_via {w W w1 : World} (h : Below w.heap.size w W) (hb : Below W.heap.size W w1) : Below w.heap.size w w1 := h.trans (hb.mono h.size)
def Gives (w : World) (v : Value) (e : Ending) (w' : World) : Prop := e = .returned v ∧ Below w.heap.size w w'
theorem hide {p : Prop} (h : p) : Hid p := h
theorem int_eq {k : IntKind} {a b : Int} (h : a = b) : Value.int k a = Value.int k b := by rw [h]
theorem bool_eq {a b : Bool} (h : a = b) : Value.bool a = Value.bool b := by rw [h]
theorem ret_eq {a b : Value} (h : a = b) : Ending.returned a = .returned b := by rw [h]
/-! ### From a law's walk to the given statement -/
section
variable {H : Type} {enc : TypeId × Value → H} {P : Program}
theorem post_of_below {f : Func} {s : ChangeSpec} {apart fresh handsOn again : Bool} {W W' : World} {args : Array Value} {v : Value} {ds gs : List (DataW H)} {before pa pv : List MemPlace}
    (hW : DataW.Whole enc P f.params.toList s.vars apart W args.toList ds gs before)
    (hres : ∀ (b : Nat) (sp : Nat → Bool) (hd : Bool), DataW.TrodAll enc P W' b sp hd f.resultTypes.toList (v.resultList f.resultTypes.size) (s.fn H (ds ++ gs)).results [])
    (hargs : ∀ sp : Nat → Bool, (∀ p ∈ before, sp p.block = true) → DataW.TrodAll enc P W' 0 sp true f.params.toList args.toList (s.fn H (ds ++ gs)).args pa)
    (hvars : ∀ sp : Nat → Bool, (∀ p ∈ before, sp p.block = true) → DataW.TrodVars enc P W' sp s.vars (s.fn H (ds ++ gs)).vars pv)
    (hps : before = pa ++ pv) (hb : Below W.heap.size W W')
    (hok : ∀ (j : Nat) (t : TypeId) (r : Value), f.resultTypes[j]? = some t → (v.resultList f.resultTypes.size)[j]? = some r → Value.okWide P W' .any 0 t r) :
    s.post enc P f apart fresh handsOn again W args v W' := by
  have hlt : ∀ p ∈ before, p.block < W.heap.size := fun p hp => hW.lt p hp
  have hold : ∀ p ∈ before, (fun b => decide (b < W.heap.size)) p.block = true := fun p hp => by simpa using hlt p hp
  refine ⟨ds, gs, before, [], pa, pv, hW, hres _ _ _, hargs _ hold, hvars _ hold, World.keptBut_mono (fun p hp => ⟨hp, ?_⟩) (hb.frame (· ∈ before)), fun _ => ?_⟩
  · rw [hps, List.mem_append] at hp
    exact Or.inr hp
  · obtain ⟨_, _, _, _, _, hz, hn⟩ := hW
    refine ⟨hok, _, _, ([] ++ pa) ++ pv, ⟨[] ++ pa, pv, trodAll_append (hargs _ (fun _ _ => rfl)) (hres _ _ _), hvars _ (fun _ _ => rfl), rfl, ?_, ?_⟩, ?_⟩
    · intro b off hp
      have hin : MemPlace.cell b off ∈ before := by rw [hps]; simpa using hp
      rw [hb.frozen (hlt _ hin)]
      exact hz b off hin
    · intro ha
      have := hn ha
      rw [hps] at this
      simpa using this
    · intro p hp _
      rw [hps]
      simpa using hp
theorem trodAll_len {W : World} {b : Nat} {sp : Nat → Bool} {hd : Bool} : ∀ {ts : List TypeId} {vs : List Value} {ds : List (DataW H)} {ps : List MemPlace},
    DataW.TrodAll enc P W b sp hd ts vs ds ps → ds.length = ts.length
  | [], _, _, _, h => by
    obtain ⟨rfl, rfl, rfl⟩ := trodAll_nil h
    rfl
  | t :: ts, _, _, _, h => by
    obtain ⟨v, vs', d, ds', p, q, rfl, rfl, rfl, h1, h2⟩ := trodAll_cons h
    simpa using trodAll_len h2
theorem trodAll_kept {W W' : World} (hl : laidOutB P = true) (hb : Below W.heap.size W W') (sp : Nat → Bool) :
    ∀ {ts : List TypeId} {vs : List Value} {ds : List (DataW H)} {ps : List MemPlace}, (∀ t ∈ ts, P.readableRec t = true ∧ t < P.types.size) →
      DataW.TrodAll enc P W 0 (fun _ => true) true ts vs ds ps → (∀ x ∈ ps, x.block < W.heap.size) → (∀ x ∈ ps, sp x.block = true) → DataW.TrodAll enc P W' 0 sp true ts vs ds ps
  | [], _, _, _, _, h, _, _ => by
    obtain ⟨rfl, rfl, rfl⟩ := trodAll_nil h
    exact trodAll_mk0
  | t :: ts, _, _, _, ht, h, hlt, hsp => by
    obtain ⟨v, vs', d, ds', p, q, rfl, rfl, rfl, h1, h2⟩ := trodAll_cons h
    obtain ⟨r1, r2⟩ := ht t (by simp)
    exact trodAll_cons_mk (WideElems.Trod_stays hl r1 r2 h1 (fun x hx => hb.same (hlt x (by simp [hx]))) (fun x hx => hsp x (by simp [hx])))
      (trodAll_kept hl hb sp (fun u hu => ht u (by simp [hu])) h2 (fun x hx => hlt x (by simp [hx])) (fun x hx => hsp x (by simp [hx])))
end
theorem law_lift {H : Type} {enc : TypeId × Value → H} {C : Checked} {os : Os} {f : FuncId} {fn : Func} {s : ChangeSpec} {tb : TypeId} (hl : laidOutB C.prog = true)
    (own : ownKnob C.prog.godebug = none) (started : os.Started) (noInit : C.prog.inits.idxOf? f = none) (hfn : C.prog.funcs[f]? = some fn)
    (witness : ∃ (w : World) (tape : Tape) (i : Input), w.os = os ∧ (w.forCall tape i).Shaped C.prog ∧ i.vars = [] ∧ Input.okWide C.prog (w.forCall tape i) .any w.heap.size f i ∧
      s.pre6 enc C.prog fn [] false (w.forCall tape i).memory i.args ∧ ({} : Assume).holds C.prog (lone (Frame.enter C.prog f i.args .normal) [] (w.forCall tape i)))
    (hv : s.vars = []) (hr : fn.resultTypes = #[tb]) (ht : C.prog.underlying tb = some .bool)
    (hts : ∀ t ∈ fn.params.toList, C.prog.readableRec t = true ∧ t < C.prog.types.size)
    (hspec : ∀ ds : List (DataW H), ds.length = fn.params.size → s.fn H ds = { results := [.lit (.bool true)], args := ds })
    (walk : ∀ (W : World) (base : Nat) (args : Array Value) (ds : List (DataW H)) (ps : List MemPlace),
      (∀ (j : Nat) t v, fn.params[j]? = some t → args[j]? = some v → Value.okWide C.prog W .any base t v) →
      DataW.TrodAll enc C.prog W 0 (fun _ => true) true fn.params.toList args.toList ds ps →
      (∀ x ∈ ps, x.block < W.heap.size) →
      (DataW.weightsEach C.prog fn.params.toList ds).all (· ≤ reachBytes) = true →
      Calls C.prog f args W (Gives W (.bool true))) :
    ReturnsInHanded {} C os f .any (s.pre6 enc C.prog fn [] false) (s.post enc C.prog fn false true false false) := by
  refine returnsInHanded_of_change_sized (C := C) own started noInit hfn witness ?_
  intro W base args ds gs before hval hW _ hsz _
  have hW' := hW
  obtain ⟨p, q, hA, hV, rfl, _, _⟩ := hW
  rw [hv] at hV
  obtain ⟨rfl, rfl⟩ := trodVars_none hV
  have hlt : ∀ x ∈ p ++ [], x.block < W.heap.size := fun x hx => hW'.lt x hx
  simp only [List.append_nil] at hlt hW'
  have hsz' : (DataW.weightsEach C.prog fn.params.toList ds).all (· ≤ reachBytes) = true := by
    simpa [ChangeSpec.plain, DataSpec.varTypes, hv] using hsz
  have hlen : ds.length = fn.params.size := by
    have := trodAll_len hA
    simpa using this
  have hsp : s.fn H (ds ++ []) = { results := [.lit (.bool true)], args := ds } := by rw [List.append_nil]; exact hspec ds hlen
  refine (walk W base args ds p hval hA hlt hsz').mono fun e W' ⟨he, hb⟩ => ?_
  subst he
  refine ⟨_, rfl, post_of_below (pa := p) (pv := []) hW' (fun _ _ _ => ?_) (fun sp hs => ?_) (fun _ _ => ?_) (by simp) hb ?_⟩
  · rw [hsp, hr]
    exact trodAll_mk1 (shut_bool ht _)
  · rw [hsp]
    exact trodAll_kept hl hb sp hts hA hlt hs
  · rw [hsp, hv]
    rfl
  · exact ok_one hr rfl (okWide_bool_mk ht _)
/-! ### Opening arguments -/
section
variable {H : Type} {enc : TypeId × Value → H} {P : Program} {w : World} {base : Nat} {spare : Nat → Bool} {held : Bool}
end
end Go.Proofs.Ytbeojfhakmbacaa
namespace Go.Proofs.Ytbeojfhakmbacaa
open Go.RowKit Go.WideShapes Go.ChangeShapes Go.ChangeAt Go.Joins Go.Deep
theorem Try.own : ownKnob Try.prog.godebug = none := by kernel_rfl
theorem Try.laidOut : laidOutB Try.prog = true := by kernel_rfl
end Go.Proofs.Ytbeojfhakmbacaa
namespace Go.Proofs.Ytbeojfhakmbacaa
open Go.RowKit
theorem below_grownBy {w w' : World} (h : Below w.heap.size w w') : w.grownBy w' none := ⟨h.os, h.tape, h.output, h.size, fun k hk _ => h.block k hk⟩
theorem own_below {w w' : World} {base : Nat} {e : TypeId} {size : Nat} {v : Value} {n : Nat} {xs : List Value} (h : w.ownsRow base e size v n xs) (hb : Below w.heap.size w w') : w'.ownsRow base e size v n xs :=
  h.kept (below_grownBy hb) (by
    cases hv : v.ownBlock with
    | none => exact Or.inl rfl
    | some k => exact Or.inr (by simp))
theorem own_cell {w w' : World} {base : Nat} {e : TypeId} {size : Nat} {v : Value} {n : Nat} {xs : List Value} (h : w.ownsRow base e size v n xs) (hg : w.grownBy w' v.ownBlock) {a : Addr} {u : Value} (hc : w.cell? a = some u) (ha : a.block < base) : w'.cell? a = some u :=
  hg.cell hc fun e => by have := (h.lt _ e.symm).1; omega
theorem own_grown {w w' a : World} {B base : Nat} {e : TypeId} {size : Nat} {v : Value} {n : Nat} {xs : List Value} (h : w.ownsRow base e size v n xs) (hg : w.grownBy w' v.ownBlock) (hb : Below B a w) (hB : B ≤ w.heap.size) (hx : B ≤ base) : Below B a w' :=
  hb.grown hg hB fun k hk => by have := (h.lt k hk).1; omega
theorem news_one {w : World} {a : Addr} {x : Value} (h : w.cell? a = some x) : ∀ j u, [x][j]? = some u → w.cell? (a.add j) = some u := by
  intro j u hj
  match j, hj with
  | 0, hj => simp at hj; subst hj; simpa [Addr.add] using h
def byteVal (c : UInt8) : Value := .int .u8 (c.toNat : Int)
theorem set_ahead (q : Nat) (z v : Value) (l : List Value) : (List.replicate (q + 1) z ++ l).set q v = List.replicate q z ++ v :: l := by
  induction q with
  | zero => simp
  | succ q ih => rw [List.replicate_succ, List.cons_append, List.set_cons_succ, ih]; simp [List.replicate_succ]
theorem at_ahead (q : Nat) (z : Value) (l : List Value) : (List.replicate (q + 1) z ++ l)[q]? = some z := by
  rw [List.getElem?_append_left (by simp)]; simp
end Go.Proofs.Ytbeojfhakmbacaa
namespace Go.Proofs.Ytbeojfhakmbacaa
open Go.RowKit
abbrev Pt := Int × Int
def flat (l : List Pt) : List Value := l.flatMap fun p => [.int .i64 p.1, .int .i64 p.2]
def nth (l : List Int) (k : Nat) : Int := l.getD k 0
def ints (l : List Int) : List Value := l.map (.int .i64)
theorem flat_cons (p : Pt) (l : List Pt) : flat (p :: l) = .int .i64 p.1 :: .int .i64 p.2 :: flat l := rfl
theorem flat_len : ∀ l : List Pt, (flat l).length = l.length * 2
  | [] => rfl
  | p :: l => by rw [flat_cons, List.length_cons, List.length_cons, flat_len l, List.length_cons]; omega
theorem ints_len (l : List Int) : (ints l).length = l.length := by simp [ints]
theorem ints_at (l : List Int) (k : Nat) (h : k < l.length) : (ints l)[k]? = some (.int .i64 (nth l k)) := by
  simp [ints, nth, List.getElem?_map, List.getElem?_eq_getElem h]
theorem add_one (a : Addr) : a.add 1 = ⟨a.block, a.off + 1, none⟩ := by simp [Addr.add]
section
variable {w w' : World} {B n : Nat} {A : Option Addr}
theorem Reads.num {l : List Int} (h : Reads w B 1 A n (ints l)) {k : Nat} (hk : k < l.length) :
    ∃ ad : Addr, A = some ad ∧ ad.block < B ∧ w.cell? (ad.add k) = some (.int .i64 (nth l k)) := by
  have hn : n = l.length := by have := h.1; rw [ints_len] at this; omega
  obtain ⟨ad, e, hb, hc⟩ := h.2 (by omega)
  exact ⟨ad, e, hb, hc _ _ (ints_at l k hk)⟩
theorem reads_below {size : Nat} {xs : List Value} (h : Reads w w.heap.size size A n xs) (hb : Below w.heap.size w w') : Reads w' w'.heap.size size A n xs := (h.below hb).more hb.size
theorem Reads.len {l : List Pt} (h : Reads w B 2 A n (flat l)) : n = l.length := by have := h.1; rw [flat_len] at this; omega
end
theorem take_num (l : List Int) (k : Nat) (h : k < l.length) : l.take (k + 1) = l.take k ++ [nth l k] := by
  have e : nth l k = l[k] := by simp [nth, List.getElem?_eq_getElem h]
  rw [e, List.take_succ_eq_append_getElem h]
theorem nth_mem {l : List Int} {k : Nat} (h : k < l.length) : nth l k ∈ l := by
  have e : nth l k = l[k] := by simp [nth, List.getElem?_eq_getElem h]
  rw [e]; exact List.getElem_mem h
def GivesS (w : World) (e : TypeId) (size n : Nat) (xs : List Value) (f : Value → Value) (r : Ending) (w' : World) : Prop :=
  ∃ A c, r = .returned (f (.slice A n c)) ∧ w'.ownsRow w.heap.size e size (.slice A n c) n xs ∧ Below w.heap.size w w'
theorem own_empty (w : World) {base : Nat} {e : TypeId} {size H : Nat} (hH : w.heap.size = H) (hb : base ≤ H) : (w.alloc (.cells #[] e)).ownsRow base e size (.slice (some ⟨H, 0, none⟩) 0 0) 0 [] := by
  subst hH; exact World.ownsRow_made w #[] 0 hb (by decide) (by simp)
theorem own_mono {w : World} {base base' : Nat} {e : TypeId} {size : Nat} {v : Value} {n : Nat} {xs : List Value} (h : w.ownsRow base e size v n xs) (hb : base' ≤ base) : w.ownsRow base' e size v n xs :=
  ⟨h.1, h.2.imp id fun ⟨g, cap, cur, h1, h2, h3⟩ => ⟨g, cap, cur, h1, Nat.le_trans hb h2, h3⟩⟩
theorem own_reads {w : World} {base : Nat} {e : TypeId} {size : Nat} {A : Option Addr} {c n : Nat} {xs : List Value} (h : w.ownsRow base e size (.slice A n c) n xs) : Reads w w.heap.size size A n xs := Reads.of_own h
def peq (p q : Pt) : Bool := decide (p = q)
/-! lists by their beginnings -/
/-! numbers in a row -/
theorem set_mid (a : List Value) (x y : Value) (b : List Value) {i : Nat} (h : i = a.length) : (a ++ x :: b).set i y = a ++ y :: b := by
  subst h; simp
theorem grown_trans {a b c : World} {row : Option Nat} (h : a.grownBy b row) (h' : b.grownBy c row) : a.grownBy c row :=
  ⟨h'.os.trans h.os, h'.tape.trans h.tape, h'.output.trans h.output, Nat.le_trans h.size h'.size, fun k hk hr => (h'.block k (Nat.lt_of_lt_of_le hk h.size) hr).trans (h.block k hk hr)⟩
theorem Reads.two {w : World} {B n : Nat} {A : Option Addr} {xs : List Value} (h : Reads w B 2 A n xs) {k : Nat} (hk : k < n) {u v : Value} (hu : xs[k * 2]? = some u) (hv : xs[k * 2 + 1]? = some v) :
    ∃ ad : Addr, A = some ad ∧ ad.block < B ∧ w.cell? (ad.add (k * 2)) = some u ∧ w.cell? ⟨(ad.add (k * 2)).block, (ad.add (k * 2)).off + 1, none⟩ = some v := by
  obtain ⟨ad, e, hb, hc⟩ := h.2 (by omega)
  exact ⟨ad, e, hb, hc _ _ hu, by rw [← add_one, add_of_add]; exact hc _ _ hv⟩
theorem Reads.one {w : World} {B n : Nat} {A : Option Addr} {xs : List Value} (h : Reads w B 1 A n xs) {k : Nat} (hk : k < n) {u : Value} (hu : xs[k]? = some u) :
    ∃ ad : Addr, A = some ad ∧ ad.block < B ∧ w.cell? (ad.add k) = some u := by
  obtain ⟨ad, e, hb, hc⟩ := h.2 (by omega)
  exact ⟨ad, e, hb, hc _ _ hu⟩
theorem own_at {w : World} {base : Nat} {e : TypeId} {size : Nat} {A : Option Addr} {c n : Nat} {xs : List Value} (h : w.ownsRow base e size (.slice A n c) n xs) (hn : n ≠ 0) : ∃ g, A = some ⟨g, 0, none⟩ ∧ base ≤ g ∧ g < w.heap.size := by
  obtain ⟨g, cap, hv, h2, h3⟩ := World.ownsRow.form h (by omega)
  injection hv with hv _ _
  exact ⟨g, hv, h2, h3⟩
theorem own_based {w : World} {base m : Nat} {e : TypeId} {size : Nat} {v : Value} {n : Nat} {xs : List Value} (h : w.ownsRow base e size v n xs) (hm : m ≤ base) : ∃ b, w.ownsRow b e size v n xs ∧ m ≤ b := ⟨base, h, hm⟩
theorem own_cap {w : World} {base : Nat} {e : TypeId} {size : Nat} {A : Option Addr} {c n : Nat} {xs : List Value} (h : w.ownsRow base e size (.slice A n c) n xs) : n ≤ c := by
  rcases h.2 with ⟨hv, _⟩ | ⟨g, cap, cur, hv, _, _, hc, _⟩
  · injection hv with _ h1 h2; omega
  · injection hv with _ _ h2; omega
theorem Reads.front {w : World} {B size n k : Nat} {A : Option Addr} {xs : List Value} (h : Reads w B size A n xs) (hk : k ≤ n) : Reads w B size A k (xs.take (k * size)) := by
  refine ⟨by rw [List.length_take, h.1]; exact Nat.min_eq_left (Nat.mul_le_mul_right _ hk), fun hn => ?_⟩
  obtain ⟨ad, e, hb, hc⟩ := h.2 (by omega)
  refine ⟨ad, e, hb, fun j u hu => hc j u ?_⟩
  rw [List.getElem?_take] at hu
  split at hu
  · exact hu
  · cases hu
theorem Reads.back {w : World} {B size n k : Nat} {ad : Addr} {xs : List Value} (h : Reads w B size (some ad) n xs) (hk : k ≤ n) : Reads w B size (some (ad.add (k * size))) (n - k) (xs.drop (k * size)) := by
  refine ⟨by rw [List.length_drop, h.1, Nat.sub_mul], fun hn => ?_⟩
  obtain ⟨ad', e, hb, hc⟩ := h.2 (by omega)
  injection e with e
  subst e
  refine ⟨_, rfl, by rw [block_of_add]; exact hb, fun j u hu => ?_⟩
  rw [add_of_add]
  exact hc _ u (by rw [← hu, List.getElem?_drop])
theorem Reads.none_back {w : World} {B size : Nat} (A : Option Addr) : Reads w B size A 0 [] := ⟨by simp, fun hn => absurd hn (by omega)⟩
end Go.Proofs.Ytbeojfhakmbacaa
namespace Go.Proofs.Ytbeojfhakmbacaa
def wi (n a b : Int) : Bool := decide (a ≤ n) && decide (n ≤ b)
theorem wi_iff {n a b : Int} : wi n a b = true ↔ a ≤ n ∧ n ≤ b := by simp [wi]
def vP (x y : Int) : Bool := wi x 0 9899 && wi y 0 9899
def szOf (o : Bool) : Int := if o then 99 else 100
def vR (o : Bool) (a b : Int) : Bool := wi a 0 (szOf o - 1) && wi b 0 (szOf o - 1)
theorem vP_iff {x y : Int} : vP x y = true ↔ (0 ≤ x ∧ x ≤ 9899) ∧ (0 ≤ y ∧ y ≤ 9899) := by simp [vP, wi_iff]
theorem szOf_two (o : Bool) : szOf o = 99 ∨ szOf o = 100 := by cases o <;> simp [szOf]
theorem vR_iff {o : Bool} {a b : Int} : vR o a b = true ↔ (0 ≤ a ∧ a < szOf o) ∧ (0 ≤ b ∧ b < szOf o) := by
  simp [vR, wi_iff]; omega
def bo (e o : Int) : Int := (100 * o - 99 * e) % 9900
theorem bo_spec {e o : Int} (h0 : 0 ≤ e) (h1 : e < 100) (h2 : 0 ≤ o) (h3 : o < 99) : 0 ≤ bo e o ∧ bo e o ≤ 9899 ∧ bo e o % 100 = e ∧ bo e o % 99 = o := by
  unfold bo; omega
theorem crt {n m : Int} (h0 : 0 ≤ n) (h1 : n ≤ 9899) (h2 : 0 ≤ m) (h3 : m ≤ 9899) (ha : n % 100 = m % 100) (hb : n % 99 = m % 99) : n = m := by omega
theorem vR_bd {o : Bool} {a b : Int} (h : vR o a b = true) : (0 ≤ a ∧ a < 100) ∧ (0 ≤ b ∧ b < 100) := by
  have h1 := vR_iff.1 h
  have := szOf_two o
  omega
theorem vR_bd99 {a b : Int} (h : vR true a b = true) : (0 ≤ a ∧ a < 99) ∧ (0 ≤ b ∧ b < 99) := by
  have h1 := vR_iff.1 h
  simp [szOf] at h1
  omega
def rofO (x y : Int) (o : Bool) : Bool := vP x y && o
def rofA (x y : Int) (o : Bool) : Int := if vP x y = true then x % szOf o else 0
def rofB (x y : Int) (o : Bool) : Int := if vP x y = true then y % szOf o else 0
def pkU (o : Bool) (a b : Int) : Int := 128 * a + b + (if o then 16384 else 0)
def upK (d : Int) : Bool := wi d 0 32767 && vR (decide (16384 ≤ d)) (d % 16384 / 128) (d % 128)
def upO (d : Int) : Bool := upK d && decide (16384 ≤ d)
def upA (d : Int) : Int := if upK d = true then d % 16384 / 128 else 0
def upB (d : Int) : Int := if upK d = true then d % 128 else 0
def dpK (o1 : Bool) (a1 b1 : Int) (o2 : Bool) (a2 b2 : Int) : Bool := vR o1 a1 b1 && vR o2 a2 b2 && !o1 && o2
def dpX (o1 : Bool) (a1 b1 : Int) (o2 : Bool) (a2 b2 : Int) : Int := if dpK o1 a1 b1 o2 a2 b2 = true then bo a1 a2 else 0
def dpY (o1 : Bool) (a1 b1 : Int) (o2 : Bool) (a2 b2 : Int) : Int := if dpK o1 a1 b1 o2 a2 b2 = true then bo b1 b2 else 0
/-! The loops' facts. -/
end Go.Proofs.Ytbeojfhakmbacaa
namespace Go.Proofs.Ytbeojfhakmbacaa
open Go.RowKit
abbrev Rp := Bool × Int × Int
abbrev Hd := Int × Rp × Int × Rp × Int × Int
def hdc (h : Hd) : List Value := [.int .i64 h.1, .bool h.2.1.1, .int .i64 h.2.1.2.1, .int .i64 h.2.1.2.2, .int .i64 h.2.2.1, .bool h.2.2.2.1.1, .int .i64 h.2.2.2.1.2.1, .int .i64 h.2.2.2.1.2.2, .int .i64 h.2.2.2.2.1, .int .i64 h.2.2.2.2.2]
def hdV (h : Hd) : Value := .agg #[.int .i64 h.1, .bool h.2.1.1, .int .i64 h.2.1.2.1, .int .i64 h.2.1.2.2, .int .i64 h.2.2.1, .bool h.2.2.2.1.1, .int .i64 h.2.2.2.1.2.1, .int .i64 h.2.2.2.1.2.2, .int .i64 h.2.2.2.2.1, .int .i64 h.2.2.2.2.2]
def hds (l : List Hd) : List Value := l.flatMap hdc
def nHd : Hd := (0, (false, 0, 0), 0, (false, 0, 0), 0, 0)
def hx (l : List Hd) (k : Nat) : Hd := l.getD k nHd
theorem hdc_len (h : Hd) : (hdc h).length = 10 := rfl
theorem hds_cons (p : Hd) (l : List Hd) : hds (p :: l) = hdc p ++ hds l := rfl
theorem hds_app (a b : List Hd) : hds (a ++ b) = hds a ++ hds b := by simp [hds]
theorem hds_snoc (l : List Hd) (p : Hd) : hds (l ++ [p]) = hds l ++ hdc p := by rw [hds_app]; simp [hds]
theorem hds_len : ∀ l : List Hd, (hds l).length = l.length * 10
  | [] => rfl
  | p :: l => by rw [hds_cons, List.length_append, hdc_len, hds_len l, List.length_cons]; omega
theorem hds_at : ∀ (l : List Hd) (k j : Nat), k < l.length → j < 10 → (hds l)[k * 10 + j]? = (hdc (hx l k))[j]?
  | p :: l, 0, j, _, hj => by rw [hds_cons, List.getElem?_append_left (by rw [hdc_len]; omega), Nat.zero_mul, Nat.zero_add]; rfl
  | p :: l, k + 1, j, h, hj => by
    have ih := hds_at l k j (by simpa using h) hj
    rw [hds_cons, List.getElem?_append_right (by rw [hdc_len]; omega), hdc_len, show (k + 1) * 10 + j - 10 = k * 10 + j from by omega, ih]
    rfl
theorem take_hd (l : List Hd) (k : Nat) (h : k < l.length) : l.take (k + 1) = l.take k ++ [hx l k] := by
  rw [List.take_succ_eq_append_getElem h]; unfold hx; rw [List.getD_eq_getElem?_getD, List.getElem?_eq_getElem h]; rfl
theorem hx_mem {l : List Hd} {k : Nat} (h : k < l.length) : hx l k ∈ l := by
  unfold hx; rw [List.getD_eq_getElem?_getD, List.getElem?_eq_getElem h]; exact List.getElem_mem h
theorem hd_at (a : Addr) (i j : Nat) (hj : 0 < j) : a.add (i + j) = ⟨(a.add i).block, (a.add i).off + j, none⟩ := by
  rw [← add_of_add]
  unfold Addr.add
  rw [if_neg (show ¬ j = 0 by omega)]
section
variable {w w' : World} {B n : Nat} {A : Option Addr}
theorem Reads.hd {l : List Hd} (h : Reads w B 10 A n (hds l)) {k : Nat} (hk : k < l.length) {a : Int} {eo : Bool} {ea eb et : Int} {oo : Bool} {oa ob ot f : Int} (e : hx l k = (a, (eo, ea, eb), et, (oo, oa, ob), ot, f)) :
    ∃ ad : Addr, A = some ad ∧ ad.block < B ∧ w.cell? (ad.add (k * 10)) = some (.int .i64 a) ∧
      w.cell? ⟨(ad.add (k * 10)).block, (ad.add (k * 10)).off + 1, none⟩ = some (.bool eo) ∧ w.cell? ⟨(ad.add (k * 10)).block, (ad.add (k * 10)).off + 2, none⟩ = some (.int .i64 ea) ∧
      w.cell? ⟨(ad.add (k * 10)).block, (ad.add (k * 10)).off + 3, none⟩ = some (.int .i64 eb) ∧ w.cell? ⟨(ad.add (k * 10)).block, (ad.add (k * 10)).off + 4, none⟩ = some (.int .i64 et) ∧
      w.cell? ⟨(ad.add (k * 10)).block, (ad.add (k * 10)).off + 5, none⟩ = some (.bool oo) ∧ w.cell? ⟨(ad.add (k * 10)).block, (ad.add (k * 10)).off + 6, none⟩ = some (.int .i64 oa) ∧
      w.cell? ⟨(ad.add (k * 10)).block, (ad.add (k * 10)).off + 7, none⟩ = some (.int .i64 ob) ∧ w.cell? ⟨(ad.add (k * 10)).block, (ad.add (k * 10)).off + 8, none⟩ = some (.int .i64 ot) ∧
      w.cell? ⟨(ad.add (k * 10)).block, (ad.add (k * 10)).off + 9, none⟩ = some (.int .i64 f) := by
  have hn : n = l.length := by have := h.1; rw [hds_len] at this; omega
  obtain ⟨ad, e0, hb, hc⟩ := h.2 (by omega)
  have H : ∀ j, 0 < j → j < 10 → ∀ v, (hdc (hx l k))[j]? = some v → w.cell? ⟨(ad.add (k * 10)).block, (ad.add (k * 10)).off + j, none⟩ = some v := fun j h0 hj v hv => by
    rw [← hd_at _ _ _ h0]; exact hc _ _ ((hds_at l k j hk hj).trans hv)
  have e1 : hdc (hx l k) = [.int .i64 a, .bool eo, .int .i64 ea, .int .i64 eb, .int .i64 et, .bool oo, .int .i64 oa, .int .i64 ob, .int .i64 ot, .int .i64 f] := by rw [e]; rfl
  rw [e1] at H
  refine ⟨ad, e0, hb, ?_, H 1 (by omega) (by omega) _ rfl, H 2 (by omega) (by omega) _ rfl, H 3 (by omega) (by omega) _ rfl, H 4 (by omega) (by omega) _ rfl, H 5 (by omega) (by omega) _ rfl, H 6 (by omega) (by omega) _ rfl, H 7 (by omega) (by omega) _ rfl, H 8 (by omega) (by omega) _ rfl, H 9 (by omega) (by omega) _ rfl⟩
  have h0 := hc (k * 10 + 0) (.int .i64 a) ((hds_at l k 0 hk (by omega)).trans (by rw [e1]; rfl))
  rwa [Nat.add_zero] at h0
end
/-! ### Receivers that are right -/
def kpt (r : Rp) (t : Int) (o : Bool) (m : Int) : Bool := if t = -1 then decide (r = (false, 0, 0)) else wi t 0 m && (decide (r.1 = o) && vR r.1 r.2.1 r.2.2)
def okH (m : Int) (h : Hd) : Bool := wi h.1 1 65535 && wi h.2.2.2.2.2 1 9999 && (kpt h.2.1 h.2.2.1 false m && kpt h.2.2.2.1 h.2.2.2.2.1 true m)
def ascH (l : List Hd) (i : Nat) : Prop := 0 < i → (hx l (i - 1)).1 < (hx l i).1
def okN (m : Int) (l : List Hd) (i : Nat) : Prop := ∀ j, j < i → okH m (hx l j) = true ∧ ascH l j
instance (l : List Hd) (i : Nat) : Decidable (ascH l i) := inferInstanceAs (Decidable (_ → _))
def okR (m : Int) (l : List Hd) : Bool := wi m 0 9999 && (decide (l.length ≤ 6) && (List.range l.length).all fun j => okH m (hx l j) && decide (ascH l j))
end Go.Proofs.Ytbeojfhakmbacaa
namespace Go.Proofs.Ytbeojfhakmbacaa
open Go
section
variable {P : Program} {S : World → Prop}
def Lands (P : Program) (S : World → Prop) (x : Sem Next) (v : Value) : Prop :=
  ∀ w, S w → match x.run P w with
    | .ok (.value u) w' => u = v ∧ S w'
    | .ok (.enter f args) w' => Calls P f args w' fun e w'' => e = .returned v ∧ S w''
    | .ok .skip w' => v = undef ∧ S w'
    | _ => False
theorem Lands.wp {o : Oper} {a : Act} {v : Value} (h : Lands P S (execOp a.eval o) v) {w : World} (hS : S w) {K : Act → World → Prop} {Q : Exit → Act → World → Prop}
    (hK : ∀ w', S w' → K (a.put o.dst v) w') : o.wp P a w K Q := by
  have h1 := h w hS
  unfold Oper.wp
  generalize (execOp a.eval o).run P w = r at h1
  cases r with
  | ok n w' =>
    cases n <;> simp only at h1 <;> simp only [Oper.upon]
    case value u => obtain ⟨rfl, h2⟩ := h1; exact hK _ h2
    case skip => obtain ⟨rfl, h2⟩ := h1; exact hK _ h2
    case enter f args => exact h1.mono fun e w'' ⟨he, h2⟩ => by subst he; exact hK _ h2
  | halt x w' => exact h1.elim
def LandsAt (P : Program) (ops : Array Oper) (S : World → Prop) (o : Oper) (v : Value) (a : Act) : Prop :=
  (Region.wanted o (yielded ops a.tmps) = true ∧ Lands P S (execOp a.eval o) v) ∨ (Region.wanted o (yielded ops a.tmps) = false ∧ v = undef)
def wpDet (P : Program) (ops : Array Oper) (S : World → Prop) (R : Act → Prop) : List Oper → Act → Prop
  | [], a => R a
  | o :: rest, a => ∃ v, LandsAt P ops S o v a ∧ wpDet P ops S R rest (a.put o.dst v)
def stateAt (a : Act) (ps : List (Oper × Value)) (k : Nat) : Act := (ps.take k).foldl (fun a p => a.put p.1.dst p.2) a
theorem stateAt_succ {a : Act} {ps : List (Oper × Value)} {k : Nat} {o : Oper} {v : Value} (h : ps[k]? = some (o, v)) : stateAt a ps (k + 1) = (stateAt a ps k).put o.dst v := by
  simp [stateAt, List.take_add_one, h, List.foldl_append]
theorem wpDet_pairs {ops : Array Oper} {R : Act → Prop} : ∀ (l : List Oper) (a : Act), wpDet P ops S R l a →
    ∃ ps : List (Oper × Value), ps.map (·.1) = l ∧ (∀ k o v, ps[k]? = some (o, v) → LandsAt P ops S o v (stateAt a ps k)) ∧ R (stateAt a ps ps.length)
  | [], a, h => ⟨[], rfl, by simp, by simpa [stateAt, wpDet] using h⟩
  | o :: rest, a, ⟨v, hv, h⟩ => by
    obtain ⟨ps, h1, h2, h3⟩ := wpDet_pairs rest _ h
    refine ⟨(o, v) :: ps, by simp [h1], fun k o' v' hk => ?_, by simpa [stateAt] using h3⟩
    cases k with
    | zero => simp at hk; obtain ⟨rfl, rfl⟩ := hk; simpa [stateAt] using hv
    | succ k => simpa [stateAt] using h2 k o' v' (by simpa using hk)
def seqOk (ops : Array Oper) : Bool :=
  (List.range ops.size).all fun j => match ops[j]? with
    | none => true
    | some oj => (match oj.op with | .select .. => false | _ => true) && oj.after.toList.all (fun e => !Region.binds .any e || decide (e.on < j)) &&
      (List.range j).all fun i => match ops[i]? with
        | none => true
        | some oi => oi.apart ops oj || oj.after.toList.any (fun e => Region.binds .any e && e.on == i)
theorem seqOk_spec {ops : Array Oper} (h : seqOk ops = true) {j : Nat} {oj : Oper} (hj : ops[j]? = some oj) :
    (∀ cs b, oj.op ≠ .select cs b) ∧ (∀ e ∈ oj.after, Region.binds .any e = true → e.on < j) ∧
    ∀ i oi, i < j → ops[i]? = some oi → oi.apart ops oj = true ∨ ∃ e ∈ oj.after, Region.binds .any e = true ∧ e.on = i := by
  have hlt : j < ops.size := (Array.getElem?_eq_some_iff.1 hj).1
  have h1 := List.all_eq_true.1 h j (by simpa using hlt)
  simp only [hj, Bool.and_eq_true] at h1
  obtain ⟨⟨h2, h3⟩, h4⟩ := h1
  refine ⟨fun cs b e => by rw [e] at h2; simp at h2, fun e he hb => ?_, fun i oi hi hoi => ?_⟩
  · have := List.all_eq_true.1 h3 e (by simpa using he)
    simpa [hb] using this
  · have := List.all_eq_true.1 h4 i (by simpa using hi)
    simp only [hoi, Bool.or_eq_true] at this
    refine this.imp id fun h5 => ?_
    obtain ⟨e, he, hb⟩ := List.any_eq_true.1 h5
    simp only [Bool.and_eq_true, beq_iff_eq] at hb
    exact ⟨e, by simpa using he, hb.1, hb.2⟩
structure Inv (ops : Array Oper) (A : Nat → Act) (listed : Array Bool) (a : Act) : Prop where
  size : listed.size = ops.size
  down : ∀ (j : Nat) oj, ops[j]? = some oj → listed.getD j true = true → ∀ e ∈ oj.after, Region.binds .any e = true → listed.getD e.on false = true
  defers : a.defers = (A 0).defers
  tsize : a.tmps.size = (A 0).tmps.size
  slots : ∀ (t k : Nat), (∀ (j : Nat) oj, ops[j]? = some oj → oj.dst = some t → (listed.getD j true = true ↔ j < k)) → a.tmps[t]? = (A k).tmps[t]?
theorem Act.eval_of_slots {a b : Act} {x : Operand} (h : ∀ t, x = .tmp t → a.tmps[t]? = b.tmps[t]?) : a.eval x = b.eval x := by
  cases x with
  | tmp t => simp [Act.eval, h t rfl]
  | _ => rfl
theorem same_exec {ops : Array Oper} {o : Oper} {a b : Act} (hs : ∀ cs d, o.op ≠ .select cs d) (h : ∀ t ∈ o.looksAt ops, a.tmps[t]? = b.tmps[t]?) :
    execOp a.eval o = execOp b.eval o ∧ Region.wanted o (yielded ops a.tmps) = Region.wanted o (yielded ops b.tmps) := by
  constructor
  · refine execOp_congr o hs fun x hx => Act.eval_of_slots fun t ht => h t ?_
    subst ht
    exact List.mem_append_left _ (List.mem_filterMap.2 ⟨.tmp t, by simpa using hx, rfl⟩)
  · unfold Region.wanted
    cases hg : o.guard with
    | none => rfl
    | some gw =>
      obtain ⟨g, want⟩ := gw
      have hy : yielded ops a.tmps g = yielded ops b.tmps g := by
        unfold yielded
        cases ht : (ops[g]?).bind (·.dst) with
        | none => rfl
        | some t =>
          have h1 := h t (List.mem_append_right _ (by simp [hg, ht]))
          simp [h1]
      simp only [hy]
theorem put_tmps_ne {a : Act} {d : Option Tmp} {v : Value} {t : Nat} (h : d ≠ some t) : (a.put d v).tmps[t]? = a.tmps[t]? := by
  cases d with
  | none => rfl
  | some d => simp only [Act.put]; rw [Array.getElem?_setIfInBounds_ne (fun e => h (by rw [e]))]
theorem put_size {a : Act} {d : Option Tmp} {v : Value} : (a.put d v).tmps.size = a.tmps.size := by cases d <;> simp [Act.put]
theorem put_defers {a : Act} {d : Option Tmp} {v : Value} : (a.put d v).defers = a.defers := by cases d <;> rfl
theorem put_tmps_eq {a b : Act} {t : Nat} {v : Value} (h : a.tmps.size = b.tmps.size) : (a.put (some t) v).tmps[t]? = (b.put (some t) v).tmps[t]? := by
  simp only [Act.put, Array.getElem?_setIfInBounds, if_true, h]
theorem no_writer {A : Nat → Act} {ps : List (Oper × Value)} (hA : ∀ (k : Nat) (o : Oper) (v : Value), ps[k]? = some (o, v) → A (k + 1) = (A k).put o.dst v) (hN : ∀ k, ps.length ≤ k → A (k + 1) = A k) {t : Nat} :
    ∀ (d i : Nat), (∀ j o v, i ≤ j → j < i + d → ps[j]? = some (o, v) → o.dst ≠ some t) → (A (i + d)).tmps[t]? = (A i).tmps[t]?
  | 0, i, _ => rfl
  | d + 1, i, h => by
    have h1 := no_writer hA hN d i (fun j o v a b => h j o v a (by omega))
    rw [← h1]
    show (A (i + d + 1)).tmps[t]? = _
    cases hp : ps[i + d]? with
    | none => rw [hN _ (by simpa using hp)]
    | some p =>
      obtain ⟨o, v⟩ := p
      rw [hA _ o v hp, put_tmps_ne (h _ o v (by omega) (by omega) hp)]
theorem ready_spec {ops : Array Oper} {listed : Array Bool} {i : Nat} (h : i ∈ Region.ready .any ops listed) :
    listed.getD i true = false ∧ ∃ o, ops[i]? = some o ∧ ∀ e ∈ o.after, Region.binds .any e = true → listed.getD e.on false = true := by
  unfold Region.ready at h
  simp only [List.mem_filter, List.mem_range, Bool.and_eq_true, Bool.not_eq_true'] at h
  obtain ⟨hlt, h1, h2⟩ := h
  refine ⟨h1, ops[i], Array.getElem?_eq_getElem hlt, fun e he hb => ?_⟩
  rw [Array.getElem?_eq_getElem hlt] at h2
  simp only [Option.map_some, Option.getD_some, Array.all_eq_true_iff_forall_mem, Bool.or_eq_true, Bool.not_eq_true'] at h2
  rcases h2 e he with h3 | h3
  · rw [hb] at h3; cases h3
  · exact h3
theorem all_listed {ops : Array Oper} {listed : Array Bool} (hs : listed.size = ops.size) (hok : seqOk ops = true) (h : Region.ready .any ops listed = []) : ∀ j, listed.getD j true = true := by
  intro j
  induction j using Nat.strongRecOn with
  | _ j ih =>
    rcases Nat.lt_or_ge j listed.size with hlt | hge
    · cases hl : listed.getD j true with
      | true => rfl
      | false =>
        exfalso
        have hlo : j < ops.size := by omega
        obtain ⟨_, he, _⟩ := seqOk_spec hok (Array.getElem?_eq_getElem hlo)
        have hm : j ∈ Region.ready .any ops listed := by
          unfold Region.ready
          simp only [List.mem_filter, List.mem_range, Bool.and_eq_true, Bool.not_eq_true']
          refine ⟨hlo, hl, ?_⟩
          rw [Array.getElem?_eq_getElem hlo]
          simp only [Option.map_some, Option.getD_some, Array.all_eq_true_iff_forall_mem, Bool.or_eq_true, Bool.not_eq_true']
          intro e hem
          cases hb : Region.binds .any e with
          | false => exact .inl rfl
          | true =>
            have h1 := he e hem hb
            have h2 := ih e.on h1
            have h3 : e.on < listed.size := by omega
            simp only [Array.getD, h3, dif_pos] at h2 ⊢
            exact .inr h2
        rw [h] at hm
        cases hm
    · simp [Array.getD, Nat.not_lt.2 hge]
theorem getD_set {l : Array Bool} {i j : Nat} {d : Bool} (hi : i < l.size) : (l.setIfInBounds i true).getD j d = if j = i then true else l.getD j d := by
  simp only [Array.getD_eq_getD_getElem?, Array.getElem?_setIfInBounds]
  by_cases h : i = j
  · subst h; simp [hi]
  · simp [h, Ne.symm h]
theorem count_set {l : Array Bool} {i n : Nat} (hi : l.getD i true = false) (h : l.toList.count false ≤ n + 1) : (l.setIfInBounds i true).toList.count false ≤ n := by
  have hlt : i < l.size := by
    rcases Nat.lt_or_ge i l.size with h1 | h1
    · exact h1
    · simp [Array.getD, Nat.not_lt.2 h1] at hi
  have hv : l[i] = false := by simpa [Array.getD, hlt] using hi
  have hv2 : l.toList[i]'(by simpa using hlt) = false := by simpa using hv
  rw [Array.toList_setIfInBounds, List.count_set (by simpa using hlt), hv2]
  have e1 : (if (false == false) = true then 1 else 0) = 1 := rfl
  have e2 : (if (true == false) = true then 1 else 0) = 0 := rfl
  rw [e1, e2]
  omega
theorem inv_step {ops : Array Oper} {A : Nat → Act} {ps : List (Oper × Value)} (hok : seqOk ops = true) (hps : ∀ (j : Nat) (o : Oper), ops[j]? = some o ↔ ∃ v : Value, ps[j]? = some (o, v))
    (hA : ∀ (k : Nat) (o : Oper) (v : Value), ps[k]? = some (o, v) → A (k + 1) = (A k).put o.dst v) (hN : ∀ k, ps.length ≤ k → A (k + 1) = A k)
    {listed : Array Bool} {a : Act} (I : Inv ops A listed a) {i : Nat} {o : Oper} {v : Value} (hr : i ∈ Region.ready .any ops listed) (hp : ps[i]? = some (o, v)) :
    Inv ops A (listed.setIfInBounds i true) (a.put o.dst v) := by
  obtain ⟨hu, o', ho, he⟩ := ready_spec hr
  have hlt : i < listed.size := by rw [I.size]; exact (Array.getElem?_eq_some_iff.1 ho).1
  obtain rfl : o = o' := by
    have := (hps i o).2 ⟨v, hp⟩
    rw [ho] at this
    exact (Option.some.inj this).symm
  have hs0 : ∀ k, (A k).tmps.size = (A 0).tmps.size := by
    intro k
    induction k with
    | zero => rfl
    | succ k ih =>
      cases hk : ps[k]? with
      | none => rw [hN k (by simpa using hk), ih]
      | some p => rw [hA k p.1 p.2 hk, put_size, ih]
  refine ⟨by simpa using I.size, fun j oj hj hl e hem hb => ?_, by rw [put_defers]; exact I.defers, by rw [put_size]; exact I.tsize, fun t k hk => ?_⟩
  · rw [getD_set hlt] at hl ⊢
    split
    · rfl
    · by_cases hji : j = i
      · subst hji
        rw [ho] at hj
        cases hj
        exact he e hem hb
      · rw [if_neg hji] at hl
        exact I.down j oj hj hl e hem hb
  · by_cases hd : o.dst = some t
    · have hik : i < k := (hk i o ho hd).1 (by rw [getD_set hlt, if_pos rfl])
      have hno := no_writer hA hN (t := t) (k - (i + 1)) (i + 1) (fun j oj vj h1 h2 hpj hdj => by
        have hoj := (hps j oj).2 ⟨vj, hpj⟩
        have hlj := (hk j oj hoj hdj).2 (by omega)
        rw [getD_set hlt, if_neg (by omega)] at hlj
        obtain ⟨_, _, h3⟩ := seqOk_spec hok hoj
        rcases h3 i o (by omega) ho with h4 | ⟨e, hem, hb, heq⟩
        · have := (Oper.apart_spec h4).2.1 t hd
          exact this hdj
        · have := I.down j oj hoj hlj e hem hb
          rw [heq] at this
          simp only [Array.getD, hlt, dif_pos] at this hu
          rw [this] at hu
          cases hu)
      rw [show i + 1 + (k - (i + 1)) = k from by omega] at hno
      rw [hno, hA i o v hp, hd]
      exact put_tmps_eq (I.tsize.trans (hs0 i).symm)
    · rw [put_tmps_ne hd]
      refine I.slots t k fun j oj hoj hdj => ?_
      rw [← hk j oj hoj hdj, getD_set hlt]
      by_cases hji : j = i
      · subst hji
        rw [ho] at hoj
        cases hoj
        exact absurd hdj hd
      · rw [if_neg hji]
theorem lands_at {ops : Array Oper} {A : Nat → Act} (hok : seqOk ops = true) {listed : Array Bool} {a : Act} (I : Inv ops A listed a) {i : Nat} {o : Oper} {v : Value}
    (hr : i ∈ Region.ready .any ops listed) (ho : ops[i]? = some o) (h : LandsAt P ops S o v (A i)) : LandsAt P ops S o v a := by
  obtain ⟨hu, o', ho', he⟩ := ready_spec hr
  rw [ho] at ho'
  cases ho'
  obtain ⟨hs, _, h3⟩ := seqOk_spec hok ho
  have hlt : i < listed.size := by rw [I.size]; exact (Array.getElem?_eq_some_iff.1 ho).1
  obtain ⟨e1, e2⟩ := same_exec (ops := ops) (a := a) (b := A i) hs (fun t ht => I.slots t i fun j oj hoj hdj => by
    constructor
    · intro hl
      rcases Nat.lt_trichotomy j i with h4 | h4 | h4
      · exact h4
      · subst h4; rw [hu] at hl; cases hl
      · exfalso
        obtain ⟨_, _, h5⟩ := seqOk_spec hok hoj
        rcases h5 i o h4 ho with h6 | ⟨e, hem, hb, heq⟩
        · exact (Oper.apart_spec h6).2.2 t hdj ht
        · have := I.down j oj hoj hl e hem hb
          rw [heq] at this
          simp only [Array.getD, hlt, dif_pos] at this hu
          rw [this] at hu
          cases hu
    · intro hji
      rcases h3 j oj hji hoj with h6 | ⟨e, hem, hb, heq⟩
      · exact absurd ht ((Oper.apart_spec h6).1 t hdj)
      · have := he e hem hb
        rw [heq] at this
        have hj : j < listed.size := by omega
        simp only [Array.getD, hj, dif_pos] at this ⊢
        exact this)
  unfold LandsAt at *
  rw [e1, e2]
  exact h
theorem det_any {ops : Array Oper} {A : Nat → Act} {ps : List (Oper × Value)} {Q : Exit → Act → World → Prop} (hok : seqOk ops = true) (hps : ∀ (j : Nat) (o : Oper), ops[j]? = some o ↔ ∃ v : Value, ps[j]? = some (o, v))
    (hA : ∀ (k : Nat) (o : Oper) (v : Value), ps[k]? = some (o, v) → A (k + 1) = (A k).put o.dst v) (hN : ∀ k, ps.length ≤ k → A (k + 1) = A k)
    (hL : ∀ (k : Nat) (o : Oper) (v : Value), ps[k]? = some (o, v) → LandsAt P ops S o v (A k)) (hQ : ∀ w, S w → Q .normal (A ps.length) w) (hlen : ps.length = ops.size) :
    ∀ (fuel : Nat) (listed : Array Bool) (a : Act) (w : World), Inv ops A listed a → S w → listed.toList.count false ≤ fuel → wpAny P .any ops Q fuel listed a w := by
  have hfin : ∀ (listed : Array Bool) (a : Act) (w : World), Inv ops A listed a → S w → (∀ j, listed.getD j true = true) → Q .normal a w := by
    intro listed a w I hS hall
    have : a = A ps.length := by
      have hs0 : ∀ k, (A k).tmps.size = (A 0).tmps.size ∧ (A k).defers = (A 0).defers := by
        intro k
        induction k with
        | zero => exact ⟨rfl, rfl⟩
        | succ k ih =>
          cases hk : ps[k]? with
          | none => rw [hN k (by simpa using hk)]; exact ih
          | some p => rw [hA k p.1 p.2 hk, put_size, put_defers]; exact ih
      obtain ⟨ta, da⟩ := a
      have e1 : ta = (A ps.length).tmps := Array.ext_getElem? fun t => I.slots t ps.length fun j oj hoj _ => by
        simp only [hall j, true_iff]
        rw [hlen]
        exact (Array.getElem?_eq_some_iff.1 hoj).1
      have e2 : da = (A ps.length).defers := I.defers.trans (hs0 _).2.symm
      rw [e1, e2]
    rw [this]
    exact hQ w hS
  intro fuel
  induction fuel with
  | zero =>
    intro listed a w I hS hc
    have hall : ∀ j, listed.getD j true = true := by
      intro j
      rcases Nat.lt_or_ge j listed.size with hlt | hge
      · cases hl : listed.getD j true with
        | true => rfl
        | false =>
          have hv : listed[j] = false := by simpa [Array.getD, hlt] using hl
          have hm : false ∈ listed.toList := by
            rw [← hv]
            exact Array.mem_toList_iff.2 (Array.getElem_mem hlt)
          have := List.count_pos_iff.2 hm
          omega
      · simp [Array.getD, Nat.not_lt.2 hge]
    refine ⟨?_, hfin listed a w I hS hall⟩
    rcases hr : Region.ready .any ops listed with _ | ⟨i, r⟩
    · rfl
    · have := (ready_spec (ops := ops) (listed := listed) (i := i) (by rw [hr]; simp)).1
      rw [hall] at this
      cases this
  | succ fuel ih =>
    intro listed a w I hS hc
    refine ⟨fun hr => hfin listed a w I hS (all_listed I.size hok hr), fun i hi => ?_⟩
    obtain ⟨hu, o, ho, he⟩ := ready_spec hi
    obtain ⟨v, hp⟩ := (hps i o).1 ho
    have hI := inv_step hok hps hA hN I hi hp
    have hl := lands_at hok I hi ho (hL i o v hp)
    have hc' := count_set hu hc
    unfold wpOp
    simp only [ho]
    rcases hl with ⟨hw, hl⟩ | ⟨hw, rfl⟩
    · rw [if_pos hw]
      exact .inl (hl.wp hS fun w' hS' => ih _ _ _ hI hS' hc')
    · rw [if_neg (by rw [hw]; simp)]
      exact ih _ _ _ hI hS hc'
theorem wp_region_det {id : Nat} {l : List Oper} {a : Act} {w : World} {Q : Exit → Act → World → Prop} (S : World → Prop) (hm : P.follows .mixedOrders = true) (hok : seqOk l.toArray = true) (hS : S w.drew)
    (h : wpDet P l.toArray S (fun a' => ∀ w', S w' → Q .normal a' w') l a) : (Code.region id l.toArray true).wp P Q a w := by
  refine wp_region_any hm ?_
  obtain ⟨ps, h1, h2, h3⟩ := wpDet_pairs l a h
  have hlen : ps.length = l.toArray.size := by rw [← h1]; simp
  refine det_any (S := S) (A := stateAt a ps) (ps := ps) hok (fun j o => ?_) (fun k o v hk => stateAt_succ hk) (fun k hk => ?_) h2 h3 hlen l.toArray.size _ a _ ?_ hS ?_
  · rw [← h1]
    simp only [List.getElem?_toArray, List.getElem?_map]
    cases hp : ps[j]? with
    | none => simp
    | some p =>
      obtain ⟨o', v'⟩ := p
      simp only [Option.map_some, Option.some.injEq, Prod.mk.injEq]
      exact ⟨fun e => ⟨v', e, rfl⟩, fun ⟨_, e, _⟩ => e⟩
  · simp [stateAt, List.take_of_length_le hk, List.take_of_length_le (Nat.le_succ_of_le hk)]
  · refine ⟨by simp, fun j oj hj hl => ?_, by simp [stateAt], by simp [stateAt], fun t k hk => ?_⟩
    · have hlt : j < l.toArray.size := (Array.getElem?_eq_some_iff.1 hj).1
      have hlt' : j < l.length := by simpa using hlt
      simp [Array.getD, hlt'] at hl
    · have := no_writer (A := stateAt a ps) (ps := ps) (t := t) (fun k o v hk => stateAt_succ hk) (fun k hk => by simp [stateAt, List.take_of_length_le hk, List.take_of_length_le (Nat.le_succ_of_le hk)]) k 0 (fun j o v _ hjk hpj hd => by
        have hoj : l.toArray[j]? = some o := by rw [← h1]; simp [hpj]
        have hlt : j < l.toArray.size := (Array.getElem?_eq_some_iff.1 hoj).1
        have hlt' : j < l.length := by simpa using hlt
        have := (hk j o hoj hd).2 (by omega)
        simp [Array.getD, hlt'] at this)
      rw [Nat.zero_add] at this
      rw [this]
      simp [stateAt]
  · exact Nat.le_trans List.count_le_length (by simp)
def belowOf (ops : Array Oper) : Nat → Nat → List Nat
  | 0, _ => []
  | n + 1, j => match ops[j]? with
    | none => []
    | some o => (o.after.toList.filter fun e => Region.binds .any e).flatMap fun e => e.on :: belowOf ops n e.on
def tailOk (ops : Array Oper) (m : Nat) : Bool :=
  (List.range ops.size).all fun j => decide (j < m) || (List.range j).all fun i => (belowOf ops ops.size j).contains i
theorem tailOk_spec {ops : Array Oper} {m : Nat} (h : tailOk ops m = true) {j : Nat} (hlt : j < ops.size) (hm : m ≤ j) {i : Nat} (hi : i < j) : i ∈ belowOf ops ops.size j := by
  have h1 := List.all_eq_true.1 h j (by simpa using hlt)
  simp only [Bool.or_eq_true, decide_eq_true_eq] at h1
  rcases h1 with h1 | h1
  · omega
  · simpa using List.all_eq_true.1 h1 i (by simpa using hi)
theorem below_listed {ops : Array Oper} {listed : Array Bool} (hdn : ∀ (j : Nat) oj, ops[j]? = some oj → listed.getD j true = true → ∀ e ∈ oj.after, Region.binds .any e = true → listed.getD e.on false = true)
    (hs : listed.size = ops.size) : ∀ (n j : Nat), (∀ oj, ops[j]? = some oj → ∀ e ∈ oj.after, Region.binds .any e = true → listed.getD e.on false = true) → ∀ i ∈ belowOf ops n j, listed.getD i false = true
  | 0, _, _, i, hi => by simp [belowOf] at hi
  | n + 1, j, hj, i, hi => by
    unfold belowOf at hi
    cases ho : ops[j]? with
    | none => rw [ho] at hi; simp at hi
    | some o =>
      rw [ho] at hi
      simp only [List.mem_flatMap, List.mem_filter, List.mem_cons] at hi
      obtain ⟨e, ⟨he, hb⟩, hi⟩ := hi
      have h1 := hj o ho e (by simpa using he) hb
      rcases hi with rfl | hi
      · exact h1
      · refine below_listed hdn hs n e.on (fun oj hoj => hdn e.on oj hoj ?_) i hi
        have hlt : e.on < ops.size := (Array.getElem?_eq_some_iff.1 hoj).1
        have hlt2 : e.on < listed.size := by omega
        simp only [Array.getD, hlt2, dif_pos] at h1 ⊢
        exact h1
theorem getD_both {listed : Array Bool} {j : Nat} (h : j < listed.size) : listed.getD j false = listed.getD j true := by simp [Array.getD, h]
theorem tail_any {ops : Array Oper} {Q : Exit → Act → World → Prop} {m : Nat} (hok : seqOk ops = true) (ht : tailOk ops m = true) :
    ∀ (d fuel k : Nat) (listed : Array Bool) (a : Act) (w : World), k + d = ops.size → d ≤ fuel → m ≤ k → listed.size = ops.size →
      (∀ j, j < ops.size → (listed.getD j true = true ↔ j < k)) → wpList P ops Q (ops.toList.drop k) a w → wpAny P .any ops Q fuel listed a w := by
  have key : ∀ (k i : Nat) (listed : Array Bool), m ≤ k → listed.size = ops.size → (∀ j, j < ops.size → (listed.getD j true = true ↔ j < k)) → i ∈ Region.ready .any ops listed → i = k := by
    intro k i listed hm hs hl hi
    obtain ⟨hu, o, ho, he⟩ := ready_spec hi
    have hlt : i < ops.size := (Array.getElem?_eq_some_iff.1 ho).1
    have hki : ¬ i < k := fun h => by rw [(hl i hlt).2 h] at hu; cases hu
    rcases Nat.lt_or_ge k i with h | h
    · have h1 := below_listed (ops := ops) (listed := listed) (fun j oj hj hlj e hem hb => by
        have hjs : j < ops.size := (Array.getElem?_eq_some_iff.1 hj).1
        have hjk := (hl j hjs).1 hlj
        obtain ⟨_, h5, _⟩ := seqOk_spec hok hj
        have h6 := h5 e hem hb
        rw [getD_both (by omega)]
        exact (hl e.on (by omega)).2 (by omega)) hs ops.size i (fun oj hoj => by rw [ho] at hoj; cases hoj; exact he) k (tailOk_spec ht hlt (by omega) h)
      rw [getD_both (by omega)] at h1
      have := (hl k (by omega)).1 h1
      omega
    · omega
  have fin : ∀ (k : Nat) (listed : Array Bool) (a : Act) (w : World), k ≤ ops.size → listed.size = ops.size → (∀ j, j < ops.size → (listed.getD j true = true ↔ j < k)) →
      wpList P ops Q (ops.toList.drop k) a w → Region.ready .any ops listed = [] → Q .normal a w := by
    intro k listed a w hk hs hl hw hr
    have hall := all_listed hs hok hr
    have : k = ops.size := by
      rcases Nat.lt_or_ge k ops.size with h | h
      · have := (hl k h).1 (hall k)
        omega
      · omega
    subst this
    rw [List.drop_of_length_le (by simp)] at hw
    exact hw
  intro d
  induction d with
  | zero =>
    intro fuel k listed a w hk hf hm hs hl hw
    have hr : Region.ready .any ops listed = [] := by
      rcases hr : Region.ready .any ops listed with _ | ⟨i, r⟩
      · rfl
      · have h1 := key k i listed hm hs hl (by rw [hr]; simp)
        obtain ⟨_, o, ho, _⟩ := ready_spec (ops := ops) (listed := listed) (i := i) (by rw [hr]; simp)
        have := (Array.getElem?_eq_some_iff.1 ho).1
        omega
    have hq := fin k listed a w (by omega) hs hl hw hr
    cases fuel with
    | zero => exact ⟨hr, hq⟩
    | succ f => exact ⟨fun _ => hq, fun i hi => by rw [hr] at hi; cases hi⟩
  | succ d ih =>
    intro fuel k listed a w hk hf hm hs hl hw
    cases fuel with
    | zero => omega
    | succ f =>
      refine ⟨fun hr => fin k listed a w (by omega) hs hl hw hr, fun i hi => ?_⟩
      obtain rfl := key k i listed hm hs hl hi
      have hlt : i < ops.size := by omega
      have hlt' : i < ops.toList.length := by simpa using hlt
      rw [List.drop_eq_getElem_cons hlt'] at hw
      have hnext : ∀ (a' : Act) (w' : World), wpList P ops Q (ops.toList.drop (i + 1)) a' w' → wpAny P .any ops Q f (listed.setIfInBounds i true) a' w' := fun a' w' h =>
        ih f (i + 1) _ a' w' (by omega) (by omega) (by omega) (by simpa using hs) (fun j hj => by
          rw [getD_set (by omega)]
          by_cases hji : j = i
          · subst hji; simp
          · rw [if_neg hji, hl j hj]; omega) h
      unfold wpOp
      rw [Array.getElem?_eq_getElem hlt]
      unfold wpList at hw
      rw [Array.getElem_toList] at hw
      simp only []
      split
      · rename_i h1
        rw [if_pos h1] at hw
        exact hw.imp (Oper.wp_mono hnext) id
      · rename_i h1
        rw [if_neg h1] at hw
        exact hnext _ _ hw
theorem tail_all {ops : Array Oper} {A : Nat → Act} {ps : List (Oper × Value)} {Q : Exit → Act → World → Prop} {m : Nat} (hok : seqOk ops = true) (ht : tailOk ops m = true) (hm : m ≤ ops.size)
    (hps : ∀ (j : Nat) (o : Oper), j < m → (ops[j]? = some o ↔ ∃ v : Value, ps[j]? = some (o, v)))
    (hA : ∀ (k : Nat) (o : Oper) (v : Value), ps[k]? = some (o, v) → A (k + 1) = (A k).put o.dst v) (hN : ∀ k, ps.length ≤ k → A (k + 1) = A k)
    (hL : ∀ (k : Nat) (o : Oper) (v : Value), ps[k]? = some (o, v) → LandsAt P ops S o v (A k)) (hQ : ∀ w, S w → wpList P ops Q (ops.toList.drop m) (A m) w) (hlen : ps.length = m) :
    ∀ (fuel : Nat) (listed : Array Bool) (a : Act) (w : World), listed.size = ops.size → (∀ j, m ≤ j → j < ops.size → listed.getD j true = false) →
      (∀ (j : Nat) oj, ops[j]? = some oj → listed.getD j true = true → ∀ e ∈ oj.after, Region.binds .any e = true → listed.getD e.on false = true) →
      a.defers = (A 0).defers → a.tmps.size = (A 0).tmps.size →
      (∀ (t k : Nat), k ≤ m → (∀ (j : Nat) oj, j < m → ops[j]? = some oj → oj.dst = some t → (listed.getD j true = true ↔ j < k)) → a.tmps[t]? = (A k).tmps[t]?) →
      S w → listed.toList.count false ≤ fuel → wpAny P .any ops Q fuel listed a w := by
  have hs0 : ∀ k, (A k).tmps.size = (A 0).tmps.size ∧ (A k).defers = (A 0).defers := by
    intro k
    induction k with
    | zero => exact ⟨rfl, rfl⟩
    | succ k ih =>
      cases hk : ps[k]? with
      | none => rw [hN k (by simpa using hk)]; exact ih
      | some p => rw [hA k p.1 p.2 hk, put_size, put_defers]; exact ih
  have hfin : ∀ (fuel : Nat) (listed : Array Bool) (a : Act) (w : World), listed.size = ops.size → (∀ j, m ≤ j → j < ops.size → listed.getD j true = false) → a.defers = (A 0).defers →
      (∀ (t k : Nat), k ≤ m → (∀ (j : Nat) oj, j < m → ops[j]? = some oj → oj.dst = some t → (listed.getD j true = true ↔ j < k)) → a.tmps[t]? = (A k).tmps[t]?) →
      S w → listed.toList.count false ≤ fuel → (∀ j, j < m → listed.getD j true = true) → wpAny P .any ops Q fuel listed a w := by
    intro fuel listed a w hs hu hd hsl hS hc hall
    have hl : ∀ j, j < ops.size → (listed.getD j true = true ↔ j < m) := fun j hj => by
      refine ⟨fun h => ?_, fun h => hall j h⟩
      rcases Nat.lt_or_ge j m with h1 | h1
      · exact h1
      · rw [hu j h1 hj] at h
        cases h
    have ha : a = A m := by
      obtain ⟨ta, da⟩ := a
      have e1 : ta = (A m).tmps := Array.ext_getElem? fun t => hsl t m (Nat.le_refl _) fun j oj hj hoj _ => by simp [hall j hj, hj]
      have e2 : da = (A m).defers := hd.trans (hs0 _).2.symm
      rw [e1, e2]
    subst ha
    have hcount : ops.size - m ≤ fuel := by
      refine Nat.le_trans ?_ hc
      have h1 : (List.replicate (ops.size - m) false).Sublist listed.toList := by
        have h2 : listed.toList.drop m = List.replicate (ops.size - m) false := by
          refine List.ext_getElem (by simp [hs]) fun n h1 h2 => ?_
          have h3 : m + n < listed.size := by simp at h1; omega
          have := hu (m + n) (by omega) (by omega)
          simp [Array.getD, h3] at this
          simp [this]
        rw [← h2]
        exact List.drop_sublist _ _
      have h4 := h1.count_le false
      simpa using h4
    exact tail_any hok ht (ops.size - m) fuel m listed (A m) w (by omega) hcount (Nat.le_refl _) hs hl (hQ w hS)
  intro fuel
  induction fuel with
  | zero =>
    intro listed a w hs hu hdn hd hts hsl hS hc
    refine hfin 0 listed a w hs hu hd hsl hS hc fun j hj => ?_
    have hlt : j < listed.size := by omega
    cases hl : listed.getD j true with
    | true => rfl
    | false =>
      have hv : listed[j] = false := by simpa [Array.getD, hlt] using hl
      have hm' : false ∈ listed.toList := by
        rw [← hv]
        exact Array.mem_toList_iff.2 (Array.getElem_mem hlt)
      have := List.count_pos_iff.2 hm'
      omega
  | succ fuel ih =>
    intro listed a w hs hu hdn hd hts hsl hS hc
    by_cases hall : ∀ j, j < m → listed.getD j true = true
    · exact hfin (fuel + 1) listed a w hs hu hd hsl hS hc hall
    refine ⟨fun hr => absurd (fun j _ => all_listed hs hok hr j) hall, fun i hi => ?_⟩
    obtain ⟨hui, o, ho, he⟩ := ready_spec hi
    have hlt : i < listed.size := by rw [hs]; exact (Array.getElem?_eq_some_iff.1 ho).1
    have him : i < m := by
      rcases Nat.lt_or_ge i m with h | h
      · exact h
      · refine absurd (fun j hj => ?_) hall
        have h7 := below_listed hdn hs ops.size i (fun oj hoj => by rw [ho] at hoj; cases hoj; exact he) j (tailOk_spec ht (by omega) h (i := j) (by omega))
        rw [getD_both (by omega)] at h7
        exact h7
    obtain ⟨v, hp⟩ := (hps i o him).1 ho
    obtain ⟨hsel, _, h3⟩ := seqOk_spec hok ho
    have hdn' : ∀ (j : Nat) oj, ops[j]? = some oj → (listed.setIfInBounds i true).getD j true = true → ∀ e ∈ oj.after, Region.binds .any e = true → (listed.setIfInBounds i true).getD e.on false = true := by
      intro j oj hj hl e hem hb
      rw [getD_set hlt] at hl ⊢
      split
      · rfl
      · by_cases hji : j = i
        · subst hji
          rw [ho] at hj
          cases hj
          exact he e hem hb
        · rw [if_neg hji] at hl
          exact hdn j oj hj hl e hem hb
    have hnot : ∀ j oj, i < j → ops[j]? = some oj → listed.getD j true = true → oj.dst ≠ none → o.apart ops oj = true := by
      intro j oj hij hoj hl _
      obtain ⟨_, _, h5⟩ := seqOk_spec hok hoj
      rcases h5 i o hij ho with h6 | ⟨e, hem, hb, heq⟩
      · exact h6
      · have := hdn j oj hoj hl e hem hb
        rw [heq, getD_both hlt, hui] at this
        cases this
    have hl : LandsAt P ops S o v a := by
      obtain ⟨e1, e2⟩ := same_exec (ops := ops) (a := a) (b := A i) hsel (fun t htk => hsl t i (by omega) fun j oj hjm hoj hdj => by
        constructor
        · intro hl
          rcases Nat.lt_trichotomy j i with h4 | h4 | h4
          · exact h4
          · subst h4; rw [hui] at hl; cases hl
          · exact absurd htk ((Oper.apart_spec (hnot j oj h4 hoj hl (by rw [hdj]; simp))).2.2 t hdj)
        · intro hji
          rcases h3 j oj hji hoj with h6 | ⟨e, hem, hb, heq⟩
          · exact absurd htk ((Oper.apart_spec h6).1 t hdj)
          · have := he e hem hb
            rw [heq, getD_both (by omega)] at this
            exact this)
      have := hL i o v hp
      unfold LandsAt at *
      rw [e1, e2]
      exact this
    have hsl' : ∀ (t k : Nat), k ≤ m → (∀ (j : Nat) oj, j < m → ops[j]? = some oj → oj.dst = some t → ((listed.setIfInBounds i true).getD j true = true ↔ j < k)) → (a.put o.dst v).tmps[t]? = (A k).tmps[t]? := by
      intro t k hkm hk
      by_cases hdt : o.dst = some t
      · have hik : i < k := (hk i o him ho hdt).1 (by rw [getD_set hlt, if_pos rfl])
        have hno := no_writer hA hN (t := t) (k - (i + 1)) (i + 1) (fun j oj vj h1 h2 hpj hdj => by
          have hoj := (hps j oj (by omega)).2 ⟨vj, hpj⟩
          have hlj := (hk j oj (by omega) hoj hdj).2 (by omega)
          rw [getD_set hlt, if_neg (by omega)] at hlj
          exact (Oper.apart_spec (hnot j oj (by omega) hoj hlj (by rw [hdj]; simp))).2.1 t hdt hdj)
        rw [show i + 1 + (k - (i + 1)) = k from by omega] at hno
        rw [hno, hA i o v hp, hdt]
        exact put_tmps_eq (hts.trans (hs0 i).1.symm)
      · rw [put_tmps_ne hdt]
        refine hsl t k hkm fun j oj hjm hoj hdj => ?_
        rw [← hk j oj hjm hoj hdj, getD_set hlt]
        by_cases hji : j = i
        · subst hji
          rw [ho] at hoj
          cases hoj
          exact absurd hdj hdt
        · rw [if_neg hji]
    have hgo : ∀ w', S w' → wpAny P .any ops Q fuel (listed.setIfInBounds i true) (a.put o.dst v) w' := fun w' hS' =>
      ih _ _ w' (by simpa using hs) (fun j hj hjs => by rw [getD_set hlt, if_neg (by omega)]; exact hu j hj hjs) hdn' (by rw [put_defers]; exact hd) (by rw [put_size]; exact hts) hsl' hS' (count_set hui hc)
    unfold wpOp
    simp only [ho]
    rcases hl with ⟨hw, hl⟩ | ⟨hw, rfl⟩
    · rw [if_pos hw]
      exact .inl (hl.wp hS hgo)
    · rw [if_neg (by rw [hw]; simp)]
      exact hgo w hS
theorem wp_region_tail {id : Nat} {a : Act} {w : World} {Q : Exit → Act → World → Prop} (m : Nat) (S : World → Prop) {l : List Oper} (hm : P.follows .mixedOrders = true) (hok : seqOk l.toArray = true)
    (ht : tailOk l.toArray m = true) (hml : m ≤ l.length) (hS : S w.drew)
    (h : wpDet P l.toArray S (fun a' => ∀ w', S w' → wpList P l.toArray Q (l.drop m) a' w') (l.take m) a) : (Code.region id l.toArray true).wp P Q a w := by
  refine wp_region_any hm ?_
  obtain ⟨ps, h1, h2, h3⟩ := wpDet_pairs (l.take m) a h
  have hlen : ps.length = m := by
    have : (ps.map (·.1)).length = (l.take m).length := by rw [h1]
    simpa [Nat.min_eq_left hml] using this
  rw [hlen] at h3
  refine tail_all (S := S) (A := stateAt a ps) (ps := ps) (m := m) hok ht (by simpa using hml) (fun j o hj => ?_) (fun k o v hk => stateAt_succ hk) (fun k hk => ?_) h2 (by simpa using h3) hlen l.toArray.size _ a _ (by simp)
    (fun j _ hj => by
      have hj' : j < l.length := by simpa using hj
      simp [Array.getD, hj'])
    (fun j oj hj hl => ?_) (by simp [stateAt]) (by simp [stateAt]) (fun t k hkm hk => ?_) hS ?_
  · have e : l.toArray[j]? = (l.take m)[j]? := by simp [hj]
    rw [e, ← h1]
    simp only [List.getElem?_map]
    cases hp : ps[j]? with
    | none => simp
    | some p =>
      obtain ⟨o', v'⟩ := p
      simp only [Option.map_some, Option.some.injEq, Prod.mk.injEq]
      exact ⟨fun e => ⟨v', e, rfl⟩, fun ⟨_, e, _⟩ => e⟩
  · simp [stateAt, List.take_of_length_le hk, List.take_of_length_le (Nat.le_succ_of_le hk)]
  · have hlt : j < l.toArray.size := (Array.getElem?_eq_some_iff.1 hj).1
    have hlt' : j < l.length := by simpa using hlt
    simp [Array.getD, hlt'] at hl
  · have := no_writer (A := stateAt a ps) (ps := ps) (t := t) (fun k o v hk => stateAt_succ hk) (fun k hk => by simp [stateAt, List.take_of_length_le hk, List.take_of_length_le (Nat.le_succ_of_le hk)]) k 0 (fun j o v _ hjk hpj hd => by
      have hoj : l.toArray[j]? = some o := by
        have e : l.toArray[j]? = (l.take m)[j]? := by simp [show j < m by omega]
        rw [e, ← h1]
        simp [hpj]
      have hlt : j < l.toArray.size := (Array.getElem?_eq_some_iff.1 hoj).1
      have hlt' : j < l.length := by simpa using hlt
      have := (hk j o (by omega) hoj hd).2 (by omega)
      simp [Array.getD, hlt'] at this)
    rw [Nat.zero_add] at this
    rw [this]
    simp [stateAt]
  · exact Nat.le_trans List.count_le_length (by simp)
/-! ### The same with stores: the world goes through phases, one store a phase -/
def LandsTo (P : Program) (S S' : World → Prop) (x : Sem Next) (v : Value) : Prop :=
  ∀ w, S w → match x.run P w with
    | .ok (.value u) w' => u = v ∧ S' w'
    | .ok (.enter f args) w' => Calls P f args w' fun e w'' => e = .returned v ∧ S' w''
    | .ok .skip w' => v = undef ∧ S' w'
    | _ => False
theorem LandsTo.wp {S S' : World → Prop} {o : Oper} {a : Act} {v : Value} (h : LandsTo P S S' (execOp a.eval o) v) {w : World} (hS : S w) {K : Act → World → Prop} {Q : Exit → Act → World → Prop}
    (hK : ∀ w', S' w' → K (a.put o.dst v) w') : o.wp P a w K Q := by
  have h1 := h w hS
  unfold Oper.wp
  generalize (execOp a.eval o).run P w = r at h1
  cases r with
  | ok n w' =>
    cases n <;> simp only at h1 <;> simp only [Oper.upon]
    case value u => obtain ⟨rfl, h2⟩ := h1; exact hK _ h2
    case skip => obtain ⟨rfl, h2⟩ := h1; exact hK _ h2
    case enter f args => exact h1.mono fun e w'' ⟨he, h2⟩ => by subst he; exact hK _ h2
  | halt x w' => exact h1.elim
def isPure (o : Oper) : Bool := match o.op with
  | .move _ | .assign _ | .pick .. | .build .. | .fieldAddr .. | .field .. | .binOp .. | .unOp .. | .extract .. | .nilCheck _ | .indexAddr .. | .index .. | .slice .. | .convert .. => true
  | .call { callee := .builtin .len, .. } | .call { callee := .builtin .max, .. } | .call { callee := .builtin .min, .. } => true
  | _ => false
def isEff (o : Oper) : Bool := match o.op with
  | .store .. => true
  | _ => false
def isFree (L : List Nat) (o : Oper) : Bool := !isEff o && (isPure o || match o.dst with | some d => L.contains d | none => false)
theorem eff_not_free {L : List Nat} {o : Oper} (h : isEff o = true) : isFree L o = false := by simp [isFree, h]
def phOk (L : List Nat) (ops : Array Oper) : Bool :=
  (List.range ops.size).all fun j => match ops[j]? with
    | none => true
    | some oj => (List.range j).all fun i => match ops[i]? with
      | none => true
      | some oi => isFree L oi || isFree L oj || !(isEff oi || isEff oj) || oj.after.toList.any (fun e => Region.binds .any e && e.on == i)
theorem phOk_spec {L : List Nat} {ops : Array Oper} (h : phOk L ops = true) {i j : Nat} {oi oj : Oper} (hj : ops[j]? = some oj) (hi : ops[i]? = some oi) (hij : i < j)
    (h1 : isFree L oi = false) (h2 : isFree L oj = false) (h3 : isEff oi = true ∨ isEff oj = true) : ∃ e ∈ oj.after, Region.binds .any e = true ∧ e.on = i := by
  have hlt : j < ops.size := (Array.getElem?_eq_some_iff.1 hj).1
  have h4 := List.all_eq_true.1 h j (by simpa using hlt)
  simp only [hj] at h4
  have h5 := List.all_eq_true.1 h4 i (by simpa using hij)
  simp only [hi, h1, h2, Bool.false_or, Bool.or_eq_true, Bool.not_eq_true', Bool.or_eq_false_iff] at h5
  rcases h5 with ⟨h5, h6⟩ | h5
  · rcases h3 with h3 | h3
    · rw [h3] at h5; cases h5
    · rw [h3] at h6; cases h6
  · obtain ⟨e, he, hb⟩ := List.any_eq_true.1 h5
    simp only [Bool.and_eq_true, beq_iff_eq] at hb
    exact ⟨e, by simpa using he, hb.1, hb.2⟩
def effAt (ops : Array Oper) (i : Nat) : Bool := match ops[i]? with | some o => isEff o | none => false
def cnt (ops : Array Oper) (f : Nat → Bool) : Nat := (List.range ops.size).countP fun i => f i && effAt ops i
theorem cnt_congr {ops : Array Oper} {f g : Nat → Bool} (h : ∀ i, i < ops.size → effAt ops i = true → f i = g i) : cnt ops f = cnt ops g := by
  unfold cnt
  refine List.countP_congr fun i hi => ?_
  have hlt : i < ops.size := by simpa using hi
  cases he : effAt ops i with
  | false => simp
  | true => simp [h i hlt he]
theorem countP_more {f g : Nat → Bool} {i : Nat} (hf : f i = false) (hg : g i = true) (h : ∀ j, j ≠ i → f j = g j) : ∀ n, i < n → (List.range n).countP g = (List.range n).countP f + 1
  | 0, hi => by omega
  | n + 1, hi => by
    rw [List.range_succ, List.countP_append, List.countP_append]
    by_cases hin : i = n
    · subst hin
      have : (List.range i).countP g = (List.range i).countP f := List.countP_congr fun j hj => by have h2 : j < i := (by simpa using hj); rw [h j (by omega)]
      simp [hf, hg, this]
    · have := countP_more hf hg h n (by omega)
      rw [this, List.countP_singleton, List.countP_singleton, h n (fun e => hin e.symm)]
      omega
theorem cnt_more {ops : Array Oper} {f g : Nat → Bool} {i : Nat} (hi : i < ops.size) (he : effAt ops i = true) (hf : f i = false) (hg : g i = true) (h : ∀ j, j ≠ i → f j = g j) : cnt ops g = cnt ops f + 1 :=
  countP_more (f := fun i => f i && effAt ops i) (g := fun i => g i && effAt ops i) (by simp [hf]) (by simp [hg, he]) (fun j hj => by simp [h j hj]) _ hi
def LandsPh (L : List Nat) (P : Program) (ops : Array Oper) (S : Nat → World → Prop) (o : Oper) (v : Value) (p : Nat) (a : Act) : Prop :=
  (Region.wanted o (yielded ops a.tmps) = true ∧
    ((isFree L o = true ∧ ∀ q, LandsTo P (S q) (S q) (execOp a.eval o) v) ∨ (isFree L o = false ∧ isEff o = false ∧ LandsTo P (S p) (S p) (execOp a.eval o) v) ∨ (isEff o = true ∧ LandsTo P (S p) (S (p + 1)) (execOp a.eval o) v))) ∨
  (Region.wanted o (yielded ops a.tmps) = false ∧ v = undef ∧ isEff o = false)
def wpPh (L : List Nat) (P : Program) (ops : Array Oper) (S : Nat → World → Prop) (R : Nat → Act → Prop) : List Oper → Nat → Act → Prop
  | [], p, a => R p a
  | o :: rest, p, a => ∃ v, LandsPh L P ops S o v p a ∧ wpPh L P ops S R rest (if isEff o then p + 1 else p) (a.put o.dst v)
def phAt (p : Nat) (ps : List (Oper × Value)) (k : Nat) : Nat := (ps.take k).foldl (fun p q => if isEff q.1 then p + 1 else p) p
theorem phAt_succ {p : Nat} {ps : List (Oper × Value)} {k : Nat} {o : Oper} {v : Value} (h : ps[k]? = some (o, v)) : phAt p ps (k + 1) = if isEff o then phAt p ps k + 1 else phAt p ps k := by
  simp [phAt, List.take_add_one, h, List.foldl_append]
theorem wpPh_pairs {L : List Nat} {ops : Array Oper} {S : Nat → World → Prop} {R : Nat → Act → Prop} : ∀ (l : List Oper) (p : Nat) (a : Act), wpPh L P ops S R l p a →
    ∃ ps : List (Oper × Value), ps.map (·.1) = l ∧ (∀ k o v, ps[k]? = some (o, v) → LandsPh L P ops S o v (phAt p ps k) (stateAt a ps k)) ∧ R (phAt p ps ps.length) (stateAt a ps ps.length)
  | [], p, a, h => ⟨[], rfl, by simp, by simpa [stateAt, phAt, wpPh] using h⟩
  | o :: rest, p, a, ⟨v, hv, h⟩ => by
    obtain ⟨ps, h1, h2, h3⟩ := wpPh_pairs rest _ _ h
    refine ⟨(o, v) :: ps, by simp [h1], fun k o' v' hk => ?_, by simpa [stateAt, phAt] using h3⟩
    cases k with
    | zero => simp at hk; obtain ⟨rfl, rfl⟩ := hk; simpa [stateAt, phAt] using hv
    | succ k => simpa [stateAt, phAt] using h2 k o' v' (by simpa using hk)
theorem phAt_cnt {ops : Array Oper} {ps : List (Oper × Value)} (hps : ∀ (j : Nat) (o : Oper), ops[j]? = some o ↔ ∃ v : Value, ps[j]? = some (o, v)) :
    ∀ k, k ≤ ops.size → phAt 0 ps k = cnt ops (fun i => decide (i < k))
  | 0, _ => by
    have h : ∀ l : List Nat, l.countP (fun i => decide (i < 0) && effAt ops i) = 0 := fun l => List.countP_eq_zero.2 fun i _ => by simp
    rw [cnt, h]
    simp [phAt]
  | k + 1, hk => by
    have ih := phAt_cnt hps k (by omega)
    have ho : ops[k]? = some ops[k] := Array.getElem?_eq_getElem (by omega)
    obtain ⟨v, hv⟩ := (hps k _).1 ho
    rw [phAt_succ hv, ih]
    have he : effAt ops k = isEff ops[k] := by simp [effAt, ho]
    cases hb : isEff ops[k] with
    | true =>
      rw [if_pos rfl]
      exact (cnt_more (i := k) (by omega) (by rw [he, hb]) (by simp) (by simp) (fun j hj => by simp; omega)).symm
    | false =>
      simp only [Bool.false_eq_true, if_false]
      refine cnt_congr fun i hi hei => ?_
      have : i ≠ k := fun e => by subst e; rw [he, hb] at hei; cases hei
      simp
      omega
theorem ph_any {L : List Nat} {dn : Nat → Bool} {ops : Array Oper} {S : Nat → World → Prop} {A : Nat → Act} {ps : List (Oper × Value)} {Q : Exit → Act → World → Prop} (hok : seqOk ops = true) (hph : phOk L ops = true)
    (hps : ∀ (j : Nat) (o : Oper), ops[j]? = some o ↔ ∃ v : Value, ps[j]? = some (o, v))
    (hA : ∀ (k : Nat) (o : Oper) (v : Value), ps[k]? = some (o, v) → A (k + 1) = (A k).put o.dst v) (hN : ∀ k, ps.length ≤ k → A (k + 1) = A k)
    (hL : ∀ (k : Nat) (o : Oper) (v : Value), dn k = false → ps[k]? = some (o, v) → LandsPh L P ops S o v (phAt 0 ps k) (A k)) (hQ : ∀ w, S (phAt 0 ps ps.length) w → Q .normal (A ps.length) w) (hlen : ps.length = ops.size) :
    ∀ (fuel : Nat) (listed : Array Bool) (a : Act) (w : World), (∀ k, dn k = true → listed.getD k true = true) → Inv ops A listed a → S (cnt ops fun i => listed.getD i true) w → listed.toList.count false ≤ fuel → wpAny P .any ops Q fuel listed a w := by
  have hfin : ∀ (listed : Array Bool) (a : Act) (w : World), Inv ops A listed a → S (cnt ops fun i => listed.getD i true) w → (∀ j, listed.getD j true = true) → Q .normal a w := by
    intro listed a w I hS hall
    have : a = A ps.length := by
      have hs0 : ∀ k, (A k).tmps.size = (A 0).tmps.size ∧ (A k).defers = (A 0).defers := by
        intro k
        induction k with
        | zero => exact ⟨rfl, rfl⟩
        | succ k ih =>
          cases hk : ps[k]? with
          | none => rw [hN k (by simpa using hk)]; exact ih
          | some p => rw [hA k p.1 p.2 hk, put_size, put_defers]; exact ih
      obtain ⟨ta, da⟩ := a
      have e1 : ta = (A ps.length).tmps := Array.ext_getElem? fun t => I.slots t ps.length fun j oj hoj _ => by
        simp only [hall j, true_iff]
        rw [hlen]
        exact (Array.getElem?_eq_some_iff.1 hoj).1
      have e2 : da = (A ps.length).defers := I.defers.trans (hs0 _).2.symm
      rw [e1, e2]
    rw [this]
    refine hQ w ?_
    rw [phAt_cnt hps _ (by omega)]
    have : cnt ops (fun i => listed.getD i true) = cnt ops (fun i => decide (i < ps.length)) := cnt_congr fun i hi _ => by rw [hall i]; simp; omega
    rw [← this]
    exact hS
  intro fuel
  induction fuel with
  | zero =>
    intro listed a w hD I hS hc
    have hall : ∀ j, listed.getD j true = true := by
      intro j
      rcases Nat.lt_or_ge j listed.size with hlt | hge
      · cases hl : listed.getD j true with
        | true => rfl
        | false =>
          have hv : listed[j] = false := by simpa [Array.getD, hlt] using hl
          have hm : false ∈ listed.toList := by
            rw [← hv]
            exact Array.mem_toList_iff.2 (Array.getElem_mem hlt)
          have := List.count_pos_iff.2 hm
          omega
      · simp [Array.getD, Nat.not_lt.2 hge]
    refine ⟨?_, hfin listed a w I hS hall⟩
    rcases hr : Region.ready .any ops listed with _ | ⟨i, r⟩
    · rfl
    · have := (ready_spec (ops := ops) (listed := listed) (i := i) (by rw [hr]; simp)).1
      rw [hall] at this
      cases this
  | succ fuel ih =>
    intro listed a w hD I hS hc
    refine ⟨fun hr => hfin listed a w I hS (all_listed I.size hok hr), fun i hi => ?_⟩
    obtain ⟨hu, o, ho, he⟩ := ready_spec hi
    obtain ⟨v, hp⟩ := (hps i o).1 ho
    have hI := inv_step hok hps hA hN I hi hp
    have hc' := count_set hu hc
    have hlt : i < listed.size := by rw [I.size]; exact (Array.getElem?_eq_some_iff.1 ho).1
    have hios : i < ops.size := (Array.getElem?_eq_some_iff.1 ho).1
    have heo : effAt ops i = isEff o := by simp [effAt, ho]
    -- the frame's slots that o looks at are as in the text's order
    obtain ⟨hsel, _, h3⟩ := seqOk_spec hok ho
    obtain ⟨e1, e2⟩ := same_exec (ops := ops) (a := a) (b := A i) hsel (fun t ht => I.slots t i fun j oj hoj hdj => by
      constructor
      · intro hl
        rcases Nat.lt_trichotomy j i with h4 | h4 | h4
        · exact h4
        · subst h4; rw [hu] at hl; cases hl
        · exfalso
          obtain ⟨_, _, h5⟩ := seqOk_spec hok hoj
          rcases h5 i o h4 ho with h6 | ⟨e, hem, hb, heq⟩
          · exact (Oper.apart_spec h6).2.2 t hdj ht
          · have := I.down j oj hoj hl e hem hb
            rw [heq, getD_both hlt, hu] at this
            cases this
      · intro hji
        rcases h3 j oj hji hoj with h6 | ⟨e, hem, hb, heq⟩
        · exact absurd ht ((Oper.apart_spec h6).1 t hdj)
        · have := he e hem hb
          rw [heq, getD_both (by omega)] at this
          exact this)
    have hdi : dn i = false := by
      cases hb : dn i with
      | false => rfl
      | true => rw [hD i hb] at hu; cases hu
    have hD' : ∀ k, dn k = true → (listed.setIfInBounds i true).getD k true = true := fun k hk => by
      rw [getD_set hlt]
      split
      · rfl
      · exact hD k hk
    have hl := hL i o v hdi hp
    unfold LandsPh at hl
    rw [← e1, ← e2] at hl
    -- the phase is the text's own, for whatever looks at the world
    have hphase : isFree L o = false → cnt ops (fun i => listed.getD i true) = phAt 0 ps i := by
      intro hpu
      rw [phAt_cnt hps i (by omega)]
      refine cnt_congr fun j hj hej => ?_
      have hoj : ops[j]? = some ops[j] := Array.getElem?_eq_getElem hj
      have hej' : isEff ops[j] = true := by simpa [effAt, hoj] using hej
      rcases Nat.lt_trichotomy j i with h4 | h4 | h4
      · obtain ⟨e, hem, hb, heq⟩ := phOk_spec hph ho hoj h4 (eff_not_free hej') hpu (.inl hej')
        have := he e hem hb
        rw [heq, getD_both (by omega)] at this
        simp only [this, h4, decide_true]
      · subst h4
        simp only [hu, Nat.lt_irrefl, decide_false]
      · have : listed.getD j true = false := by
          cases hlj : listed.getD j true with
          | false => rfl
          | true =>
            obtain ⟨e, hem, hb, heq⟩ := phOk_spec hph hoj ho h4 hpu (eff_not_free hej') (.inr hej')
            have := I.down j _ hoj hlj e hem hb
            rw [heq, getD_both hlt, hu] at this
            cases this
        simp only [this, Nat.not_lt.2 (Nat.le_of_lt h4), decide_false]
    have hsame : isEff o = false → cnt ops (fun k => (listed.setIfInBounds i true).getD k true) = cnt ops (fun i => listed.getD i true) := fun hne => cnt_congr fun j hj hej => by
      rw [getD_set hlt, if_neg (fun e => by subst e; rw [heo, hne] at hej; cases hej)]
    have hnext : isEff o = true → cnt ops (fun k => (listed.setIfInBounds i true).getD k true) = cnt ops (fun i => listed.getD i true) + 1 := fun hye =>
      cnt_more hios (by rw [heo, hye]) hu (by rw [getD_set hlt, if_pos rfl]) (fun j hj => by rw [getD_set hlt, if_neg hj])
    unfold wpOp
    simp only [ho]
    rcases hl with ⟨hw, hl⟩ | ⟨hw, rfl, hne⟩
    · rw [if_pos hw]
      refine .inl ?_
      rcases hl with ⟨hpu, hl⟩ | ⟨hpu, hne, hl⟩ | ⟨hye, hl⟩
      · have hne : isEff o = false := by
          cases hb : isEff o with
          | false => rfl
          | true => rw [eff_not_free hb] at hpu; cases hpu
        exact (hl _).wp hS fun w' hS' => ih _ _ _ hD' hI (by rw [hsame hne]; exact hS') hc'
      · have hcn := hphase hpu
        rw [hcn] at hS
        exact hl.wp hS fun w' hS' => ih _ _ _ hD' hI (by rw [hsame hne, hcn]; exact hS') hc'
      · have hcn := hphase (eff_not_free hye)
        rw [hcn] at hS
        exact hl.wp hS fun w' hS' => ih _ _ _ hD' hI (by rw [hnext hye, hcn]; exact hS') hc'
    · rw [if_neg (by rw [hw]; simp)]
      exact ih _ _ _ hD' hI (by rw [hsame hne]; exact hS) hc'
theorem wp_region_ph {id : Nat} {l : List Oper} {a : Act} {w : World} {Q : Exit → Act → World → Prop} (L : List Nat) (S : Nat → World → Prop) (hm : P.follows .mixedOrders = true) (hok : seqOk l.toArray = true) (hph : phOk L l.toArray = true) (hS : S 0 w.drew)
    (h : wpPh L P l.toArray S (fun p a' => ∀ w', S p w' → Q .normal a' w') l 0 a) : (Code.region id l.toArray true).wp P Q a w := by
  refine wp_region_any hm ?_
  obtain ⟨ps, h1, h2, h3⟩ := wpPh_pairs l 0 a h
  have hlen : ps.length = l.toArray.size := by rw [← h1]; simp
  refine ph_any (S := S) (dn := fun _ => false) (A := stateAt a ps) (ps := ps) hok hph (fun j o => ?_) (fun k o v hk => stateAt_succ hk) (fun k hk => ?_) (fun k o v _ => h2 k o v) h3 hlen l.toArray.size _ a _ (fun _ h => by cases h) ?_ ?_ ?_
  · rw [← h1]
    simp only [List.getElem?_toArray, List.getElem?_map]
    cases hp : ps[j]? with
    | none => simp
    | some p =>
      obtain ⟨o', v'⟩ := p
      simp only [Option.map_some, Option.some.injEq, Prod.mk.injEq]
      exact ⟨fun e => ⟨v', e, rfl⟩, fun ⟨_, e, _⟩ => e⟩
  · simp [stateAt, List.take_of_length_le hk, List.take_of_length_le (Nat.le_succ_of_le hk)]
  · refine ⟨by simp, fun j oj hj hl => ?_, by simp [stateAt], by simp [stateAt], fun t k hk => ?_⟩
    · have hlt : j < l.toArray.size := (Array.getElem?_eq_some_iff.1 hj).1
      have hlt' : j < l.length := by simpa using hlt
      simp [Array.getD, hlt'] at hl
    · have := no_writer (A := stateAt a ps) (ps := ps) (t := t) (fun k o v hk => stateAt_succ hk) (fun k hk => by simp [stateAt, List.take_of_length_le hk, List.take_of_length_le (Nat.le_succ_of_le hk)]) k 0 (fun j o v _ hjk hpj hd => by
        have hoj : l.toArray[j]? = some o := by rw [← h1]; simp [hpj]
        have hlt : j < l.toArray.size := (Array.getElem?_eq_some_iff.1 hoj).1
        have hlt' : j < l.length := by simpa using hlt
        have := (hk j o hoj hd).2 (by omega)
        simp [Array.getD, hlt'] at this)
      rw [Nat.zero_add] at this
      rw [this]
      simp [stateAt]
  · have : cnt l.toArray (fun i => (Array.replicate l.toArray.size false).getD i true) = 0 := List.countP_eq_zero.2 fun i hi => by
      have hlt : i < l.length := by simpa using hi
      simp [Array.getD, hlt]
    rw [this]
    exact hS
  · exact Nat.le_trans List.count_le_length (by simp)
/-! ### The same with a new variable, whose place among the calls is open -/
section
variable {L : List Nat} {ops : Array Oper} {S0 : World → Prop} {S : Nat → Nat → World → Prop} {R : Act → Prop} {a : Act} {o : Oper} {rest : List Oper} {v : Value}
end
theorem wpPh_nil {L : List Nat} {ops : Array Oper} {S : Nat → World → Prop} {R : Nat → Act → Prop} {p : Nat} {a : Act} (h : R p a) : wpPh L P ops S R [] p a := h
theorem wpPh_skip {L : List Nat} {ops : Array Oper} {S : Nat → World → Prop} {R : Nat → Act → Prop} {p : Nat} {a : Act} {o : Oper} {rest : List Oper} (he : isEff o = false) (hw : Region.wanted o (yielded ops a.tmps) = false)
    (hr : wpPh L P ops S R rest p (a.put o.dst undef)) : wpPh L P ops S R (o :: rest) p a := ⟨undef, .inr ⟨hw, rfl, he⟩, by rw [if_neg (by rw [he]; simp)]; exact hr⟩
theorem wpPh_pure {L : List Nat} {ops : Array Oper} {S : Nat → World → Prop} {R : Nat → Act → Prop} {p : Nat} {a : Act} {o : Oper} {rest : List Oper} {v : Value} (hp : isFree L o = true) (he : isEff o = false) (hw : Region.wanted o (yielded ops a.tmps) = true)
    (h : ∀ w, (execOp a.eval o).run P w = .ok (.value v) w) (hr : wpPh L P ops S R rest p (a.put o.dst v)) : wpPh L P ops S R (o :: rest) p a :=
  ⟨v, .inl ⟨hw, .inl ⟨hp, fun _ w hS => by rw [h w]; exact ⟨rfl, hS⟩⟩⟩, by rw [if_neg (by rw [he]; simp)]; exact hr⟩
theorem wpPh_free {L : List Nat} {ops : Array Oper} {S : Nat → World → Prop} {R : Nat → Act → Prop} {p : Nat} {a : Act} {o : Oper} {rest : List Oper} {v : Value} (hp : isFree L o = true) (he : isEff o = false) (hw : Region.wanted o (yielded ops a.tmps) = true)
    (h : ∀ q w, S q w → (execOp a.eval o).run P w = .ok (.value v) w) (hr : wpPh L P ops S R rest p (a.put o.dst v)) : wpPh L P ops S R (o :: rest) p a :=
  ⟨v, .inl ⟨hw, .inl ⟨hp, fun q w hS => by rw [h q w hS]; exact ⟨rfl, hS⟩⟩⟩, by rw [if_neg (by rw [he]; simp)]; exact hr⟩
theorem wpPh_val {L : List Nat} {ops : Array Oper} {S : Nat → World → Prop} {R : Nat → Act → Prop} {p : Nat} {a : Act} {o : Oper} {rest : List Oper} {v : Value} (hp : isFree L o = false) (he : isEff o = false) (hw : Region.wanted o (yielded ops a.tmps) = true)
    (h : ∀ w, S p w → (execOp a.eval o).run P w = .ok (.value v) w) (hr : wpPh L P ops S R rest p (a.put o.dst v)) : wpPh L P ops S R (o :: rest) p a :=
  ⟨v, .inl ⟨hw, .inr (.inl ⟨hp, he, fun w hS => by rw [h w hS]; exact ⟨rfl, hS⟩⟩)⟩, by rw [if_neg (by rw [he]; simp)]; exact hr⟩
theorem wpPh_call {L : List Nat} {ops : Array Oper} {S : Nat → World → Prop} {R : Nat → Act → Prop} {p : Nat} {a : Act} {o : Oper} {rest : List Oper} {v : Value} {f : FuncId} {args : Array Value} (hp : isFree L o = false) (he : isEff o = false)
    (hw : Region.wanted o (yielded ops a.tmps) = true) (h0 : ∀ w, (execOp a.eval o).run P w = .ok (.enter f args) w) (h : ∀ w, S p w → Calls P f args w fun e w' => e = .returned v ∧ S p w')
    (hr : wpPh L P ops S R rest p (a.put o.dst v)) : wpPh L P ops S R (o :: rest) p a :=
  ⟨v, .inl ⟨hw, .inr (.inl ⟨hp, he, fun w hS => by rw [h0 w]; exact h w hS⟩)⟩, by rw [if_neg (by rw [he]; simp)]; exact hr⟩
theorem wpPh_store {L : List Nat} {ops : Array Oper} {S : Nat → World → Prop} {R : Nat → Act → Prop} {p : Nat} {a : Act} {o : Oper} {rest : List Oper} (hd : o.dst = none) (he : isEff o = true) (hw : Region.wanted o (yielded ops a.tmps) = true)
    (h : ∀ w, S p w → ∃ w', (execOp a.eval o).run P w = .ok .skip w' ∧ S (p + 1) w') (hr : wpPh L P ops S R rest (p + 1) a) : wpPh L P ops S R (o :: rest) p a :=
  ⟨undef, .inl ⟨hw, .inr (.inr ⟨he, fun w hS => by obtain ⟨w', h1, h2⟩ := h w hS; rw [h1]; exact ⟨rfl, h2⟩⟩)⟩, by rw [if_pos he, hd]; exact hr⟩
theorem wpDet_nil {ops : Array Oper} {R : Act → Prop} {a : Act} (h : R a) : wpDet P ops S R [] a := h
theorem wpDet_skip {ops : Array Oper} {R : Act → Prop} {a : Act} {o : Oper} {rest : List Oper} (hw : Region.wanted o (yielded ops a.tmps) = false)
    (hr : wpDet P ops S R rest (a.put o.dst undef)) : wpDet P ops S R (o :: rest) a := ⟨undef, .inr ⟨hw, rfl⟩, hr⟩
theorem wpDet_val {ops : Array Oper} {R : Act → Prop} {a : Act} {o : Oper} {rest : List Oper} {v : Value} (hw : Region.wanted o (yielded ops a.tmps) = true)
    (h : ∀ w, S w → (execOp a.eval o).run P w = .ok (.value v) w) (hr : wpDet P ops S R rest (a.put o.dst v)) : wpDet P ops S R (o :: rest) a :=
  ⟨v, .inl ⟨hw, fun w hS => by rw [h w hS]; exact ⟨rfl, hS⟩⟩, hr⟩
theorem wpDet_call {ops : Array Oper} {R : Act → Prop} {a : Act} {o : Oper} {rest : List Oper} {v : Value} {f : FuncId} {args : Array Value} (hw : Region.wanted o (yielded ops a.tmps) = true)
    (h0 : ∀ w, (execOp a.eval o).run P w = .ok (.enter f args) w) (h : ∀ w, S w → Calls P f args w fun e w' => e = .returned v ∧ S w')
    (hr : wpDet P ops S R rest (a.put o.dst v)) : wpDet P ops S R (o :: rest) a :=
  ⟨v, .inl ⟨hw, fun w hS => by rw [h0 w]; exact h w hS⟩, hr⟩
end
end Go.Proofs.Ytbeojfhakmbacaa
