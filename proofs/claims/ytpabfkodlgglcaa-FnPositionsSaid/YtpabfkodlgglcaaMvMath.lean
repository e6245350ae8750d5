/- Coordinates near to those of an older report: plain. -/
import Derived.Test.YtpabfkodlgglcaaPwMath
namespace Go.Proofs.Ytpabfkodlgglcaa
open Go.RowKit
/-- Whether one of the first m numbers from n - dr on has the older remainder. -/
def mvP (o a dr n : Int) : Nat → Bool
  | 0 => false
  | m + 1 => mvP o a dr n m || (wi (n + (-dr + m)) 0 9899 && decide ((n + (-dr + m)) % a = o))
def mvB (o a dr n : Int) : Bool := mvP o a dr n (2 * dr + 1).toNat
/-- The first k numbers with the newer remainder that are near. -/
def mvN (o a dr nw b : Int) (k : Nat) : List Int := ((List.range k).map fun i : Nat => nw + b * (i : Int)).filter (mvB o a dr)
theorem mvN_zero (o a dr nw b : Int) : mvN o a dr nw b 0 = [] := rfl
theorem mvN_yes {o a dr nw b : Int} {k : Nat} (h : mvB o a dr (nw + b * k) = true) : mvN o a dr nw b (k + 1) = mvN o a dr nw b k ++ [nw + b * k] := by
  simp [mvN, List.range_succ, List.filter_append, h]
theorem mvN_no {o a dr nw b : Int} {k : Nat} (h : mvB o a dr (nw + b * k) = false) : mvN o a dr nw b (k + 1) = mvN o a dr nw b k := by
  simp [mvN, List.range_succ, List.filter_append, h]
theorem mvN_len (o a dr nw b : Int) (k : Nat) : (mvN o a dr nw b k).length ≤ k := by
  unfold mvN
  exact Nat.le_trans (List.length_filter_le _ _) (by simp)
def mvC (nw b : Int) : Nat := ((9899 - nw) / b + 1).toNat
theorem mvC_iff {nw b : Int} (hb : b = 99 ∨ b = 100) (h0 : 0 ≤ nw) (h1 : nw < b) (i : Nat) : nw + b * i ≤ 9899 ↔ i < mvC nw b := by
  unfold mvC
  rcases hb with rfl | rfl <;> omega
theorem mvC_le {nw b : Int} (hb : b = 99 ∨ b = 100) (h0 : 0 ≤ nw) (h1 : nw < b) : mvC nw b ≤ 100 := by
  unfold mvC
  rcases hb with rfl | rfl <;> omega
def mvL (o a dr nw b : Int) : List Int := mvN o a dr nw b (mvC nw b)
theorem mvN_lt {o a dr nw b : Int} (hb : 0 < b) {k : Nat} {x : Int} (h : x ∈ mvN o a dr nw b k) : x < nw + b * k := by
  unfold mvN at h
  obtain ⟨i, hi, rfl⟩ := List.mem_map.1 (List.mem_filter.1 h).1
  have hik : i < k := by simpa using hi
  have h2 : b * (i : Int) < b * (k : Int) := Int.mul_lt_mul_of_pos_left (by omega) hb
  omega
/-- The numbers before n, and n itself if it is near to one that has been seen. -/
def mvM (o a dr nw b : Int) (i : Nat) (n : Int) (j : Nat) : List Int := mvN o a dr nw b i ++ (if mvP o a dr n j = true then [n] else [])
theorem mvM_zero (o a dr nw b : Int) (i : Nat) (n : Int) : mvM o a dr nw b i n 0 = mvN o a dr nw b i := by unfold mvM; simp [mvP]
theorem mvM_yes {o a dr nw b : Int} {i : Nat} {n : Int} {j : Nat} (h : mvP o a dr n j = true) : mvM o a dr nw b i n j = mvN o a dr nw b i ++ [n] := by unfold mvM; rw [if_pos h]
theorem mvM_no {o a dr nw b : Int} {i : Nat} {n : Int} {j : Nat} (h : mvP o a dr n j = false) : mvM o a dr nw b i n j = mvN o a dr nw b i := by unfold mvM; rw [h]; simp
theorem mvM_last {o a dr nw b : Int} {i : Nat} {n : Int} {j : Nat} (h : mvP o a dr n j = true) : ∃ q, (mvM o a dr nw b i n j).length = q + 1 ∧ nth (mvM o a dr nw b i n j) q = n := by
  rw [mvM_yes h]
  exact ⟨(mvN o a dr nw b i).length, by simp, by unfold nth; simp⟩
theorem mvM_less {o a dr nw b : Int} {i : Nat} {n : Int} {j : Nat} (hb : 0 < b) (hn : nw + b * i = n) (h : mvP o a dr n j = false) : ∀ q, (mvM o a dr nw b i n j).length = q + 1 → nth (mvM o a dr nw b i n j) q < n := by
  rw [mvM_no h]
  intro q hq
  have := mvN_lt hb (nth_mem (l := mvN o a dr nw b i) (k := q) (by omega))
  omega
theorem mvM_len {o a dr nw b : Int} {i : Nat} {n : Int} {j : Nat} : (mvM o a dr nw b i n j).length ≤ i + 1 := by
  have := mvN_len o a dr nw b i
  unfold mvM
  split <;> simp <;> omega
theorem mvM_step {o a dr nw b : Int} {i : Nat} {n : Int} {j : Nat} (h : mvP o a dr n (j + 1) = mvP o a dr n j) : mvM o a dr nw b i n (j + 1) = mvM o a dr nw b i n j := by unfold mvM; rw [h]
theorem mvM_put {o a dr nw b : Int} {i : Nat} {n : Int} {j : Nat} (h0 : mvP o a dr n j = false) (h1 : mvP o a dr n (j + 1) = true) : mvM o a dr nw b i n (j + 1) = mvM o a dr nw b i n j ++ [n] := by rw [mvM_yes h1, mvM_no h0]
theorem mvM_end {o a dr nw b : Int} {i : Nat} : mvM o a dr nw b i (nw + b * i) (2 * dr + 1).toNat = mvN o a dr nw b (i + 1) := by
  rcases h : mvP o a dr (nw + b * i) (2 * dr + 1).toNat with _ | _
  · rw [mvM_no h, mvN_no h]
  · rw [mvM_yes h, mvN_yes h]
/-- Whether such a pair can be moved, and all places. -/
def mvK (o1 : Bool) (a1 b1 : Int) (o2 : Bool) (a2 b2 : Int) (dr : Int) : Bool := vR o1 a1 b1 && (vR o2 a2 b2 && (!(o1 == o2) && wi dr 0 3))
def mvA (o1 : Bool) (a1 b1 : Int) (o2 : Bool) (a2 b2 : Int) (dr : Int) : List Pt := pwF (mvL a1 (szOf o1) dr a2 (szOf o2)) (mvL b1 (szOf o1) dr b2 (szOf o2))
def mvV (o1 : Bool) (a1 b1 : Int) (o2 : Bool) (a2 b2 : Int) (dr : Int) : List Pt := if mvK o1 a1 b1 o2 a2 b2 dr = true then mvA o1 a1 b1 o2 a2 b2 dr else []
/-- Two slices in blocks of their own. -/
def Apart (v1 v2 : Value) : Prop := v1.ownBlock = none ∨ v1.ownBlock ≠ v2.ownBlock
theorem apart_new {w : World} {b s n g H m c : Nat} {e : TypeId} {v1 v2 : Value} {x : List Value} (h1 : w.ownsRow b e s v1 n x) (ha : Apart v1 v2) (hold : v2.ownBlock = some g ∨ g = H) (hH : w.heap.size ≤ H) : Apart v1 (.slice (some ⟨g, 0, none⟩) m c) := by
  cases e1 : v1.ownBlock with
  | none => exact .inl e1
  | some k =>
    have hk := (h1.lt k e1).2
    refine .inr fun e => ?_
    rcases hold with h | h
    · rcases ha with a | a
      · rw [e1] at a; cases a
      · exact a (e.trans h.symm)
    · rw [e1] at e
      have e2 : k = g := by injection e
      omega
theorem apart_nil (v : Value) : Apart v (.slice none 0 0) := by
  cases e1 : v.ownBlock with
  | none => exact .inl e1
  | some k => exact .inr (by rw [e1]; simp [Value.ownBlock])
theorem apart_low {w : World} {b s n k m c : Nat} {e : TypeId} {v : Value} {x : List Value} (h : w.ownsRow b e s v n x) (hk : k < b) : Apart v (.slice (some ⟨k, 0, none⟩) m c) := by
  cases e1 : v.ownBlock with
  | none => exact .inl e1
  | some q =>
    have hq := (h.lt q e1).1
    refine .inr fun e => ?_
    rw [e1] at e
    have e2 : q = k := by injection e
    omega
theorem own_num {w : World} {base g c n : Nat} {e : TypeId} {l : List Int} (h : w.ownsRow base e 1 (.slice (some ⟨g, 0, none⟩) n c) n (ints l)) {k : Nat} (hk : k < l.length) :
    w.cell? ⟨g, k, none⟩ = some (.int .i64 (nth l k)) := by
  have hn := own_len h
  rw [ints_len] at hn
  exact (h.cellAt k (by omega)).trans (ints_at l k hk)
theorem mvL_len {o a dr nw b : Int} (hb : b = 99 ∨ b = 100) (h0 : 0 ≤ nw) (h1 : nw < b) : (mvL o a dr nw b).length ≤ 100 := Nat.le_trans (mvN_len _ _ _ _ _ _) (mvC_le hb h0 h1)
theorem mvV_len (o1 : Bool) (a1 b1 : Int) (o2 : Bool) (a2 b2 dr : Int) : (mvV o1 a1 b1 o2 a2 b2 dr).length ≤ 10000 := by
  unfold mvV
  split
  · rename_i h
    unfold mvK at h
    simp only [Bool.and_eq_true] at h
    obtain ⟨⟨h0, h1⟩, h2, h3⟩ := vR_iff.1 h.2.1
    have hs := szOf_two o2
    unfold mvA
    rw [pwF_len]
    exact Nat.mul_le_mul (mvL_len hs h2 h3) (mvL_len hs h0 h1)
  · simp
end Go.Proofs.Ytpabfkodlgglcaa
