/- The cursor of the draws: what it keeps. -/
import Derived.Test.YtbeojfhakmbacaaSl
namespace Go.Proofs.Ytbeojfhakmbacaa
open Go.RowKit

theorem gb_refl (w : World) (r : Option Nat) : w.grownBy w r := ⟨rfl, rfl, rfl, Nat.le_refl _, fun _ _ _ => rfl⟩
theorem gb_drew {w w' : World} {r : Option Nat} (h : w.grownBy w' r) : w.grownBy w'.drew r := ⟨h.os, h.tape, h.output, h.size, h.block⟩
theorem gb_below {w w' w'' : World} {r : Option Nat} (h : w.grownBy w' r) (hb : Below w'.heap.size w' w'') : w.grownBy w'' r :=
  ⟨hb.os.trans h.os, hb.tape.trans h.tape, hb.output.trans h.output, Nat.le_trans h.size hb.size, fun k hk hr => (hb.block k (Nat.lt_of_lt_of_le hk h.size)).trans (h.block k hk hr)⟩
theorem gb_alloc {w w' : World} {r : Option Nat} (h : w.grownBy w' r) (o : Obj) : w.grownBy (w'.alloc o) r := gb_below h (by go_grown)
theorem gb_set {w w' : World} {g : Nat} (h : w.grownBy w' (some g)) (k : Nat) (u : Value) : w.grownBy (w'.setCell ⟨g, k, none⟩ u) (some g) :=
  ⟨h.os, h.tape, h.output, by simpa using h.size, fun b hb hr => (Below.heap_setCell w' ⟨g, k, none⟩ u b (fun e => hr (by rw [e]))).trans (h.block b hb hr)⟩

/-- The cursor at block g stands at i; its seed is sd. -/
def CurAt (w : World) (g : Nat) (i : Nat) (sd : Int) : Prop :=
  ∃ A n c, w.cell? ⟨g, 0, none⟩ = some (.slice A n c) ∧ w.cell? ⟨g, 1, none⟩ = some (.int .i64 (i : Int)) ∧ w.cell? ⟨g, 2, none⟩ = some (.int .u64 sd) ∧ n ≤ 65536 ∧
    (∀ j, w.frozen? ⟨g, j, none⟩ = false) ∧ (0 < n → ∃ ad : Addr, A = some ad ∧ ad.block < g ∧ ∀ j, j < n → ∃ b : Int, 0 ≤ b ∧ b ≤ 255 ∧ w.cell? (ad.add j) = some (.int .u8 b))
def Cur (w : World) (g k : Nat) : Prop := ∃ i sd, i ≤ k ∧ CurAt w g i sd
theorem CurAt.lt {w : World} {g i : Nat} {sd : Int} (h : CurAt w g i sd) : g < w.heap.size := by
  obtain ⟨A, n, c, h0, _⟩ := h
  exact World.block_lt_of_cell? w _ h0
theorem CurAt.keep {w w' : World} {g i : Nat} {sd : Int} (h : CurAt w g i sd) (hk : ∀ b, b ≤ g → w'.heap[b]? = w.heap[b]?) : CurAt w' g i sd := by
  obtain ⟨A, n, c, h0, h1, h2, hn, hf, hx⟩ := h
  have hc : ∀ j, w'.cell? ⟨g, j, none⟩ = w.cell? ⟨g, j, none⟩ := fun j => World.cell?_of_block (hk g (Nat.le_refl _))
  refine ⟨A, n, c, (hc 0).trans h0, (hc 1).trans h1, (hc 2).trans h2, hn, fun j => (World.frozen?_of_block (hk g (Nat.le_refl _))).trans (hf j), fun h => ?_⟩
  obtain ⟨ad, e, hb, ha⟩ := hx h
  refine ⟨ad, e, hb, fun j hj => ?_⟩
  obtain ⟨b, b0, b1, hc⟩ := ha j hj
  exact ⟨b, b0, b1, (World.cell?_of_block (hk _ (by rw [block_of_add]; omega))).trans hc⟩
theorem Cur.lt {w : World} {g k : Nat} (h : Cur w g k) : g < w.heap.size := by obtain ⟨i, sd, _, h⟩ := h; exact h.lt
theorem Cur.below {w w' : World} {g k : Nat} (h : Cur w g k) (hb : Below w.heap.size w w') : Cur w' g k := by
  have hl := h.lt
  obtain ⟨i, sd, hi, h⟩ := h
  exact ⟨i, sd, hi, h.keep fun b hb' => hb.block b (by omega)⟩
theorem Cur.more {w : World} {g k k' : Nat} (h : Cur w g k) (hk : k ≤ k') : Cur w g k' := by obtain ⟨i, sd, hi, h⟩ := h; exact ⟨i, sd, by omega, h⟩
theorem Cur.drew {w : World} {g k : Nat} (h : Cur w g k) : Cur w.drew g k := h.below (by go_grown)
theorem Cur.alloc {w : World} {g k : Nat} (h : Cur w g k) (o : Obj) : Cur (w.alloc o) g k := h.below (by go_grown)
theorem Cur.grown {w w' : World} {g k : Nat} (h : Cur w g k) {r : Option Nat} (hg : w.grownBy w' r) (hr : ∀ b, r = some b → g < b) : Cur w' g k := by
  have hl := h.lt
  obtain ⟨i, sd, hi, h⟩ := h
  exact ⟨i, sd, hi, h.keep fun b hb' => hg.block b (by omega) (fun e => by have := hr b e.symm; omega)⟩
/-- A call that moves the cursor by c at most and hands back a value of some make. -/
def CurG (w : World) (g k : Nat) (V : Value → World → Prop) (e : Ending) (w' : World) : Prop := ∃ v, e = .returned v ∧ V v w' ∧ Cur w' g k ∧ w.grownBy w' (some g)
def IsI (a b : Int) (v : Value) (_ : World) : Prop := ∃ x : Int, v = .int .i64 x ∧ a ≤ x ∧ x ≤ b
def IsB (v : Value) (_ : World) : Prop := ∃ b : Bool, v = .bool b
def IsP (a b : Int) (v : Value) (_ : World) : Prop := ∃ x y : Int, v = .agg #[.int .i64 x, .int .i64 y] ∧ (a ≤ x ∧ x ≤ b) ∧ a ≤ y ∧ y ≤ b
theorem set_cur {w : World} {g i : Nat} {sd : Int} (h : CurAt w g i sd) (i' : Nat) (sd' : Int) : CurAt ((w.setCell ⟨g, 1, none⟩ (.int .i64 (i' : Int))).setCell ⟨g, 2, none⟩ (.int .u64 sd')) g i' sd' := by
  obtain ⟨A, n, c, h0, h1, h2, hn, hf, hx⟩ := h
  have e1 : (w.setCell ⟨g, 1, none⟩ (.int .i64 (i' : Int))).cell? ⟨g, 1, none⟩ = some (.int .i64 (i' : Int)) := World.cell?_setCell_same _ _ _ h1
  have e2 : (w.setCell ⟨g, 1, none⟩ (.int .i64 (i' : Int))).cell? ⟨g, 2, none⟩ = some (.int .u64 sd) := by rw [World.cell?_setCell_other _ _ _ _ (by simp)]; exact h2
  have hk : ∀ b, b ≠ g → ((w.setCell ⟨g, 1, none⟩ (.int .i64 (i' : Int))).setCell ⟨g, 2, none⟩ (.int .u64 sd')).heap[b]? = w.heap[b]? := fun b hb =>
    (Below.heap_setCell _ ⟨g, 2, none⟩ _ b hb).trans (Below.heap_setCell _ ⟨g, 1, none⟩ _ b hb)
  refine ⟨A, n, c, ?_, ?_, World.cell?_setCell_same _ _ _ e2, hn, fun j => by simpa using hf j, fun h => ?_⟩
  · rw [World.cell?_setCell_other _ _ _ _ (by simp), World.cell?_setCell_other _ _ _ _ (by simp)]; exact h0
  · rw [World.cell?_setCell_other _ _ _ _ (by simp)]; exact e1
  · obtain ⟨ad, e, hb, ha⟩ := hx h
    refine ⟨ad, e, hb, fun j hj => ?_⟩
    obtain ⟨b, b0, b1, hc⟩ := ha j hj
    exact ⟨b, b0, b1, (World.cell?_of_block (hk _ (by rw [block_of_add]; omega))).trans hc⟩
theorem cur_cells {w : World} {g : Nat} {x y z : Value} (h0 : w.cell? ⟨g, 0, none⟩ = some x) (h1 : w.cell? ⟨g, 1, none⟩ = some y) (h2 : w.cell? ⟨g, 2, none⟩ = some z) (u v : Value) :
    ((w.setCell ⟨g, 1, none⟩ u).setCell ⟨g, 2, none⟩ v).cell? ⟨g, 0, none⟩ = some x ∧ ((w.setCell ⟨g, 1, none⟩ u).setCell ⟨g, 2, none⟩ v).cell? ⟨g, 1, none⟩ = some u ∧ ((w.setCell ⟨g, 1, none⟩ u).setCell ⟨g, 2, none⟩ v).cell? ⟨g, 2, none⟩ = some v := by
  have e1 : (w.setCell ⟨g, 1, none⟩ u).cell? ⟨g, 1, none⟩ = some u := World.cell?_setCell_same _ _ _ h1
  have e2 : (w.setCell ⟨g, 1, none⟩ u).cell? ⟨g, 2, none⟩ = some z := by rw [World.cell?_setCell_other _ _ _ _ (by simp)]; exact h2
  refine ⟨?_, ?_, World.cell?_setCell_same _ _ _ e2⟩
  · rw [World.cell?_setCell_other _ _ _ _ (by simp), World.cell?_setCell_other _ _ _ _ (by simp)]; exact h0
  · rw [World.cell?_setCell_other _ _ _ _ (by simp)]; exact e1
theorem gb_seta {w w' : World} {r : Option Nat} (h : w.grownBy w' r) {a : Addr} (ha : w.heap.size ≤ a.block) (u : Value) : w.grownBy (w'.setCell a u) r :=
  ⟨h.os, h.tape, h.output, by simpa using h.size, fun b hb hr => (Below.heap_setCell w' a u b (by omega)).trans (h.block b hb hr)⟩
theorem Cur.setc {w : World} {g k : Nat} (h : Cur w g k) {a : Addr} (ha : g < a.block) (u : Value) : Cur (w.setCell a u) g k := by
  obtain ⟨i, sd, hi, h⟩ := h
  exact ⟨i, sd, hi, h.keep fun b hb => Below.heap_setCell w a u b (by omega)⟩
theorem below_gb {a w w' : World} {B g : Nat} (h : Below B a w) (hg : w.grownBy w' (some g)) (hB : B ≤ w.heap.size) (hb : B ≤ g) : Below B a w' :=
  h.grown hg hB fun k hk => by injection hk with hk; omega
theorem own_far {w : World} {base g : Nat} {e : TypeId} {size : Nat} {v : Value} {n : Nat} {xs : List Value} (h : w.ownsRow base e size v n xs) (hg : g < base) : v.ownBlock = none ∨ v.ownBlock ≠ some g := by
  cases hv : v.ownBlock with
  | none => exact .inl rfl
  | some k => exact .inr fun e => by injection e with e; have := (h.lt k hv).1; omega
theorem fre_gb {w w' : World} {r : Option Nat} {b : Nat} (h : b < w.heap.size ∧ ∀ i, w.frozen? ⟨b, i, none⟩ = false) (hg : w.grownBy w' r) (hne : some b ≠ r) : b < w'.heap.size ∧ ∀ i, w'.frozen? ⟨b, i, none⟩ = false :=
  ⟨Nat.lt_of_lt_of_le h.1 hg.size, fun i => (hg.frozen_far ⟨b, i, none⟩ h.1 hne).trans (h.2 i)⟩
theorem box2_sets {w : World} {g : Nat} {x y : Value} (h0 : w.cell? ⟨g, 0, none⟩ = some x) (h1 : w.cell? ⟨g, 1, none⟩ = some y) (u v : Value) :
    (w.setCell ⟨g, 0, none⟩ u).cell? ⟨g, 0, none⟩ = some u ∧ (w.setCell ⟨g, 0, none⟩ u).cell? ⟨g, 1, none⟩ = some y ∧
    ((w.setCell ⟨g, 0, none⟩ u).setCell ⟨g, 1, none⟩ v).cell? ⟨g, 0, none⟩ = some u ∧ ((w.setCell ⟨g, 0, none⟩ u).setCell ⟨g, 1, none⟩ v).cell? ⟨g, 1, none⟩ = some v := by
  have e0 : (w.setCell ⟨g, 0, none⟩ u).cell? ⟨g, 0, none⟩ = some u := World.cell?_setCell_same _ _ _ h0
  have e1 : (w.setCell ⟨g, 0, none⟩ u).cell? ⟨g, 1, none⟩ = some y := by rw [World.cell?_setCell_other _ _ _ _ (by simp)]; exact h1
  exact ⟨e0, e1, by rw [World.cell?_setCell_other _ _ _ _ (by simp)]; exact e0, World.cell?_setCell_same _ _ _ e1⟩
theorem box2_other {w : World} {g b : Nat} (h : b ≠ g) (u v : Value) (k : Nat) : ((w.setCell ⟨g, 0, none⟩ u).setCell ⟨g, 1, none⟩ v).cell? ⟨b, k, none⟩ = w.cell? ⟨b, k, none⟩ := by
  rw [World.cell?_setCell_other _ _ _ _ (by simp [h]), World.cell?_setCell_other _ _ _ _ (by simp [h])]
theorem boxes_sets {w : World} {g f : Nat} {a0 a1 b0 b1 : Value} (hne : g ≠ f) (h0 : w.cell? ⟨g, 0, none⟩ = some a0) (h1 : w.cell? ⟨g, 1, none⟩ = some a1) (h2 : w.cell? ⟨f, 0, none⟩ = some b0) (h3 : w.cell? ⟨f, 1, none⟩ = some b1) (x y u v : Value) :
    (w.setCell ⟨g, 0, none⟩ x).cell? ⟨g, 1, none⟩ = some a1 ∧
    ((w.setCell ⟨g, 0, none⟩ x).setCell ⟨g, 1, none⟩ y).cell? ⟨f, 0, none⟩ = some b0 ∧
    (((w.setCell ⟨g, 0, none⟩ x).setCell ⟨g, 1, none⟩ y).setCell ⟨f, 0, none⟩ u).cell? ⟨f, 1, none⟩ = some b1 ∧
    ((((w.setCell ⟨g, 0, none⟩ x).setCell ⟨g, 1, none⟩ y).setCell ⟨f, 0, none⟩ u).setCell ⟨f, 1, none⟩ v).cell? ⟨g, 0, none⟩ = some x ∧
    ((((w.setCell ⟨g, 0, none⟩ x).setCell ⟨g, 1, none⟩ y).setCell ⟨f, 0, none⟩ u).setCell ⟨f, 1, none⟩ v).cell? ⟨g, 1, none⟩ = some y ∧
    ((((w.setCell ⟨g, 0, none⟩ x).setCell ⟨g, 1, none⟩ y).setCell ⟨f, 0, none⟩ u).setCell ⟨f, 1, none⟩ v).cell? ⟨f, 0, none⟩ = some u ∧
    ((((w.setCell ⟨g, 0, none⟩ x).setCell ⟨g, 1, none⟩ y).setCell ⟨f, 0, none⟩ u).setCell ⟨f, 1, none⟩ v).cell? ⟨f, 1, none⟩ = some v := by
  obtain ⟨_, c1, c2, c3⟩ := box2_sets h0 h1 x y
  have k2 : ((w.setCell ⟨g, 0, none⟩ x).setCell ⟨g, 1, none⟩ y).cell? ⟨f, 0, none⟩ = some b0 := (box2_other (fun e => hne e.symm) x y 0).trans h2
  have k3 : ((w.setCell ⟨g, 0, none⟩ x).setCell ⟨g, 1, none⟩ y).cell? ⟨f, 1, none⟩ = some b1 := (box2_other (fun e => hne e.symm) x y 1).trans h3
  obtain ⟨_, d1, d2, d3⟩ := box2_sets k2 k3 u v
  exact ⟨c1, k2, d1, (box2_other hne u v 0).trans c2, (box2_other hne u v 1).trans c3, d2, d3⟩
/-- The bytes that a law is given. -/
def CodeOk (w : World) (A : Option Addr) (n : Nat) : Prop := 0 < n → ∃ ad : Addr, A = some ad ∧ ad.block < w.heap.size ∧ ∀ j, j < n → ∃ b : Int, 0 ≤ b ∧ b ≤ 255 ∧ w.cell? (ad.add j) = some (.int .u8 b)
theorem CodeOk.below {w w' : World} {A : Option Addr} {n : Nat} (h : CodeOk w A n) (hb : Below w.heap.size w w') : CodeOk w' A n := fun hn => by
  obtain ⟨ad, e, hl, ha⟩ := h hn
  refine ⟨ad, e, Nat.lt_of_lt_of_le hl hb.size, fun j hj => ?_⟩
  obtain ⟨b, b0, b1, hc⟩ := ha j hj
  exact ⟨b, b0, b1, (hb.cell (by rw [block_of_add]; exact hl)).trans hc⟩
theorem cur_new {w : World} {A : Option Addr} {n c g : Nat} {e : TypeId} (h : CodeOk w A n) (hn : n ≤ 65536) (hg : w.heap.size = g) (k : Nat) : Cur (w.alloc (.cells #[.slice A n c, .int .i64 0, .int .u64 0] e)) g k := by
  subst hg
  refine ⟨0, 0, Nat.zero_le _, A, n, c, by simp [go_sem], by simp [go_sem], by simp [go_sem], hn, fun j => by simp [go_sem], fun hp => ?_⟩
  obtain ⟨ad, e, hl, ha⟩ := h hp
  refine ⟨ad, e, hl, fun j hj => ?_⟩
  obtain ⟨b, b0, b1, hc⟩ := ha j hj
  exact ⟨b, b0, b1, (World.cell?_alloc_lt w _ _ (by rw [block_of_add]; exact hl)).trans hc⟩
theorem lit_at {w : World} {xs : Array Value} {e : TypeId} {l : List Int} {H : Nat} (hx : xs = (ints l).toArray) (hH : w.heap.size = H) :
    ∀ j, j < l.length → (w.alloc (.cells xs e)).cell? ((⟨H, 0, none⟩ : Addr).add j) = some (.int .i64 (nth l j)) := by
  subst hx hH
  intro j hj
  have h := ints_at l j hj
  by_cases h0 : j = 0
  · subst h0; simp [go_sem, Addr.add, h]
  · simp [go_sem, Addr.add, h0, h]
theorem gb_row {w W w' : World} {r : Option Nat} {base : Nat} {e : TypeId} {size : Nat} {v : Value} {n : Nat} {xs : List Value} (h : w.grownBy W r) (ho : W.ownsRow base e size v n xs) (hg : W.grownBy w' v.ownBlock) (hb : w.heap.size ≤ base) : w.grownBy w' r :=
  ⟨hg.os.trans h.os, hg.tape.trans h.tape, hg.output.trans h.output, Nat.le_trans h.size hg.size, fun k hk hr => (hg.block k (Nat.lt_of_lt_of_le hk h.size) (fun e => by have := (ho.lt k e.symm).1; omega)).trans (h.block k hk hr)⟩
theorem cur_row {W w' : World} {g k base : Nat} {e : TypeId} {size : Nat} {v : Value} {n : Nat} {xs : List Value} (h : Cur W g k) (ho : W.ownsRow base e size v n xs) (hg : W.grownBy w' v.ownBlock) (hb : g < base) : Cur w' g k :=
  h.grown hg fun b hb' => by have := (ho.lt b hb').1; omega
theorem own_lit {w : World} {base H cap size n : Nat} {e : TypeId} {xs : Array Value} {ys : List Value} (hH : w.heap.size = H) (hb : base ≤ H) (hn : n ≤ cap) (hc : cap ≤ maxLen) (hs : xs.size = cap * size) (hl : ys.length = n * size) (ht : xs.toList.take (n * size) = ys) :
    (w.alloc (.cells xs e)).ownsRow base e size (.slice (some ⟨H, 0, none⟩) n cap) n ys := by
  subst hH
  exact ⟨hl, .inr ⟨w.heap.size, cap, xs, rfl, hb, heap_alloc_new w _, hn, hc, hs, ht⟩⟩
/-- A list of points of the call's own. -/
def IsPts (E : TypeId) (base m : Nat) (v : Value) (w' : World) : Prop := ∃ (l : List Pt) (A : Option Addr) (c : Nat), v = .slice A l.length c ∧ w'.ownsRow base E 2 (.slice A l.length c) l.length (flat l) ∧ l.length ≤ m ∧ ∀ p ∈ l, (-1000 ≤ p.1 ∧ p.1 ≤ 1000) ∧ -1000 ≤ p.2 ∧ p.2 ≤ 1000
theorem u64_and255 (a : Int) : 0 ≤ bits .and .u64 a 255 ∧ bits .and .u64 a 255 ≤ 255 := by
  have e : bits .and .u64 a 255 = IntKind.u64.wrap ((BitVec.ofInt 64 a &&& BitVec.ofInt 64 ((255 : Nat) : Int)).toNat : Int) := rfl
  have oB : (BitVec.ofInt 64 ((255 : Nat) : Int)).toNat = 255 := by rw [BitVec.ofInt_natCast, BitVec.toNat_ofNat]
  have h : (BitVec.ofInt 64 a &&& BitVec.ofInt 64 ((255 : Nat) : Int)).toNat ≤ 255 := by rw [BitVec.toNat_and, oB]; exact Nat.and_le_right
  rw [e, IntWalk.u64_in _ (by omega)]
  omega
end Go.Proofs.Ytbeojfhakmbacaa
