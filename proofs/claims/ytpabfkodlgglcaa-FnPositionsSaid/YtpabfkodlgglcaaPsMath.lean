/- Places and their reports: what a law asks, plain. -/
import Derived.Test.YtpabfkodlgglcaaRpMath
import Derived.Test.YtpabfkodlgglcaaMvMath
import Derived.WalkKit
namespace Go.Proofs.Ytpabfkodlgglcaa
open Go.RowKit
theorem dp_rep {x y : Int} (h : vP x y = true) : dpK false (x % 100) (y % 100) true (x % 99) (y % 99) = true ∧ dpX false (x % 100) (y % 100) true (x % 99) (y % 99) = x ∧ dpY false (x % 100) (y % 100) true (x % 99) (y % 99) = y := by
  obtain ⟨⟨x0, x1⟩, y0, y1⟩ := vP_iff.1 h
  have hk : dpK false (x % 100) (y % 100) true (x % 99) (y % 99) = true := by
    have h1 : vR false (x % 100) (y % 100) = true := vR_iff.2 (by simp [szOf]; omega)
    have h2 : vR true (x % 99) (y % 99) = true := vR_iff.2 (by simp [szOf]; omega)
    unfold dpK; rw [h1, h2]; rfl
  exact ⟨hk, by unfold dpX; rw [if_pos hk]; exact bo_of x0 x1, by unfold dpY; rw [if_pos hk]; exact bo_of y0 y1⟩
theorem fst_self {s x : Int} (hs : s = 99 ∨ s = 100) (h0 : 0 ≤ x) : fst (x % s) s x 0 = x := by
  unfold fst
  rcases hs with rfl | rfl <;> split <;> omega
theorem lst_self {s x : Int} (hs : s = 99 ∨ s = 100) (h0 : 0 ≤ x) : lst (x % s) s x = 0 := by
  unfold lst
  rcases hs with rfl | rfl <;> simp only [] <;> (repeat' split) <;> omega
theorem rep_ok (o : Bool) {x y : Int} (h : vP x y = true) : vR o (x % szOf o) (y % szOf o) = true := by
  obtain ⟨⟨x0, x1⟩, y0, y1⟩ := vP_iff.1 h
  refine vR_iff.2 ?_
  have hs := szOf_two o
  generalize szOf o = s at hs
  rcases hs with rfl | rfl <;> omega
theorem dn_self (o : Bool) {x y : Int} (h : vP x y = true) : dnK o (x % szOf o) (y % szOf o) x y = true ∧ dnX o (x % szOf o) (y % szOf o) x y = x ∧ dnY o (x % szOf o) (y % szOf o) x y = y := by
  obtain ⟨⟨x0, x1⟩, y0, y1⟩ := vP_iff.1 h
  have hs := szOf_two o
  have hk : dnK o (x % szOf o) (y % szOf o) x y = true := by unfold dnK; rw [rep_ok o h, h]; rfl
  have hd : dnD o (x % szOf o) (y % szOf o) x y = 0 := by unfold dnD; rw [lst_self hs x0, lst_self hs y0]; rfl
  exact ⟨hk, by unfold dnX; rw [if_pos hk, hd]; exact fst_self hs x0, by unfold dnY; rw [if_pos hk, hd]; exact fst_self hs y0⟩
theorem mvB_zero {o a n : Int} (h0 : 0 ≤ n) (h1 : n ≤ 9899) : mvB o a 0 n = decide (n % a = o) := by
  unfold mvB
  rw [show (2 * (0 : Int) + 1).toNat = 0 + 1 from rfl, mvP, mvP]
  rw [show wi (n + (-0 + ((0 : Nat) : Int))) 0 9899 = true from wi_iff.2 (by omega), show n + (-0 + ((0 : Nat) : Int)) = n from by omega]
  simp
theorem two_rest {a b n x : Int} (hab : (a = 99 ∧ b = 100) ∨ (a = 100 ∧ b = 99)) (h0 : 0 ≤ n) (h1 : n ≤ 9899) (x0 : 0 ≤ x) (x1 : x ≤ 9899) (e1 : n % a = x % a) (e2 : n % b = x % b) : n = x := by
  rcases hab with ⟨rfl, rfl⟩ | ⟨rfl, rfl⟩ <;> omega
theorem mvN_self {a b x : Int} (hab : (a = 99 ∧ b = 100) ∨ (a = 100 ∧ b = 99)) (x0 : 0 ≤ x) (x1 : x ≤ 9899) :
    ∀ k : Nat, k ≤ mvC (x % b) b → mvN (x % a) a 0 (x % b) b k = if k ≤ (x / b).toNat then [] else [x] := by
  intro k
  have hb : b = 99 ∨ b = 100 := by omega
  have hb0 : 0 < b := by omega
  have hx : x % b + b * (x / b) = x := Int.emod_add_mul_ediv x b
  have hq : 0 ≤ x / b := Int.ediv_nonneg x0 (by omega)
  induction k with
  | zero => intro _; simp [mvN_zero]
  | succ k ih =>
    intro hk
    have ih := ih (by omega)
    have hn := (mvC_iff hb (Int.emod_nonneg x (by omega)) (Int.emod_lt_of_pos x hb0) k).2 (by omega)
    have hn0 : 0 ≤ x % b + b * (k : Int) := by
      have := Int.emod_nonneg x (show b ≠ 0 by omega)
      rcases hb with rfl | rfl <;> omega
    by_cases he : k = (x / b).toNat
    · have hkx : x % b + b * (k : Int) = x := by rw [he, Int.toNat_of_nonneg hq]; exact hx
      have hm : mvB (x % a) a 0 (x % b + b * (k : Int)) = true := by rw [mvB_zero hn0 hn, hkx]; simp
      rw [mvN_yes hm, ih, if_pos (by omega), if_neg (by omega), hkx]; rfl
    · have hm : mvB (x % a) a 0 (x % b + b * (k : Int)) = false := by
        rw [mvB_zero hn0 hn]
        refine decide_eq_false fun e => he ?_
        have e2 : (x % b + b * (k : Int)) % b = x % b := by rw [Int.add_mul_emod_self_left, Int.emod_emod_of_dvd _ (Int.dvd_refl b)]
        have e3 := two_rest hab hn0 hn x0 x1 e e2
        have e4 : b * (k : Int) = b * (x / b) := by omega
        have e5 := Int.eq_of_mul_eq_mul_left (show b ≠ 0 by omega) e4
        omega
      rw [mvN_no hm, ih]
      by_cases hle : k ≤ (x / b).toNat
      · rw [if_pos hle, if_pos (by omega)]
      · rw [if_neg hle, if_neg (by omega)]
theorem mvL_self {a b x : Int} (hab : (a = 99 ∧ b = 100) ∨ (a = 100 ∧ b = 99)) (x0 : 0 ≤ x) (x1 : x ≤ 9899) : mvL (x % a) a 0 (x % b) b = [x] := by
  have hb : b = 99 ∨ b = 100 := by omega
  have hb0 : 0 < b := by omega
  have hq : 0 ≤ x / b := Int.ediv_nonneg x0 (by omega)
  have hx : x % b + b * (x / b) = x := Int.emod_add_mul_ediv x b
  have hlt := (mvC_iff hb (Int.emod_nonneg x (by omega)) (Int.emod_lt_of_pos x hb0) (x / b).toNat).1 (by rw [Int.toNat_of_nonneg hq]; omega)
  unfold mvL
  rw [mvN_self hab x0 x1 _ (Nat.le_refl _), if_neg (by omega)]
theorem mv_self (o : Bool) {x y : Int} (h : vP x y = true) : mvK o (x % szOf o) (y % szOf o) (!o) (x % szOf (!o)) (y % szOf (!o)) 0 = true ∧ mvV o (x % szOf o) (y % szOf o) (!o) (x % szOf (!o)) (y % szOf (!o)) 0 = [(x, y)] := by
  obtain ⟨⟨x0, x1⟩, y0, y1⟩ := vP_iff.1 h
  have hab : (szOf o = 99 ∧ szOf (!o) = 100) ∨ (szOf o = 100 ∧ szOf (!o) = 99) := by cases o <;> simp [szOf]
  have hk : mvK o (x % szOf o) (y % szOf o) (!o) (x % szOf (!o)) (y % szOf (!o)) 0 = true := by
    unfold mvK
    rw [rep_ok o h, rep_ok (!o) h]
    cases o <;> rfl
  refine ⟨hk, ?_⟩
  unfold mvV mvA
  rw [if_pos hk, mvL_self hab x0 x1, mvL_self hab y0 y1]
  rfl
theorem mvP_some {o a dr n : Int} : ∀ {m : Nat}, mvP o a dr n m = true → ∃ j : Nat, j < m ∧ (0 ≤ n + (-dr + j) ∧ n + (-dr + j) ≤ 9899) ∧ (n + (-dr + j)) % a = o
  | 0, h => by cases h
  | m + 1, h => by
    rw [mvP] at h
    rcases Bool.or_eq_true_iff.1 h with h | h
    · obtain ⟨j, hj, h2⟩ := mvP_some h
      exact ⟨j, by omega, h2⟩
    · obtain ⟨h1, h2⟩ := Bool.and_eq_true_iff.1 h
      exact ⟨m, by omega, wi_iff.1 h1, of_decide_eq_true h2⟩
theorem mvL_mem {o a dr nw b x : Int} (hb : b = 99 ∨ b = 100) (n0 : 0 ≤ nw) (n1 : nw < b) (h : x ∈ mvL o a dr nw b) : (0 ≤ x ∧ x ≤ 9899) ∧ x % b = nw ∧ ∃ c : Int, (0 ≤ c ∧ c ≤ 9899) ∧ c % a = o ∧ -dr ≤ c - x ∧ c - x ≤ dr := by
  unfold mvL mvN at h
  obtain ⟨h1, h2⟩ := List.mem_filter.1 h
  obtain ⟨i, hi, rfl⟩ := List.mem_map.1 h1
  have hle := (mvC_iff hb n0 n1 i).2 (by simpa using hi)
  have hb0 : (0 : Int) ≤ b := by omega
  have hpos : 0 ≤ b * (i : Int) := Int.mul_nonneg hb0 (by omega)
  obtain ⟨j, hj, ⟨c0, c1⟩, hc⟩ := mvP_some h2
  refine ⟨⟨by omega, hle⟩, ?_, _, ⟨c0, c1⟩, hc, by omega, by omega⟩
  rw [Int.add_mul_emod_self_left, Int.emod_eq_of_lt n0 n1]
theorem lst_near {s r x c d : Int} (hs : s = 99 ∨ s = 100) (h0 : 0 ≤ r) (h1 : r < s) (x0 : 0 ≤ x) (x1 : x ≤ 9899) (c0 : 0 ≤ c) (c1 : c ≤ 9899) (hc : c % s = r) (hd0 : -d ≤ c - x) (hd1 : c - x ≤ d) : lst r s x ≤ d := by
  have h := lst_ge hs h0 h1 x0 x1 (c / s) (Int.ediv_nonneg c0 (by omega)) (by rw [← hc]; exact (Int.emod_add_mul_ediv c s).symm) c1
  have hab : ab (c - x) ≤ d := by unfold ab; split <;> omega
  omega
theorem mv_mem {o1 : Bool} {a1 b1 : Int} {o2 : Bool} {a2 b2 dr : Int} {p : Pt} (h : p ∈ mvV o1 a1 b1 o2 a2 b2 dr) :
    (0 ≤ dr ∧ dr ≤ 3) ∧ (vP p.1 p.2 = true ∧ p.1 % szOf o2 = a2 ∧ p.2 % szOf o2 = b2) ∧
    dnK o1 a1 b1 p.1 p.2 = true ∧ (-dr ≤ dnX o1 a1 b1 p.1 p.2 - p.1 ∧ dnX o1 a1 b1 p.1 p.2 - p.1 ≤ dr) ∧ -dr ≤ dnY o1 a1 b1 p.1 p.2 - p.2 ∧ dnY o1 a1 b1 p.1 p.2 - p.2 ≤ dr := by
  unfold mvV at h
  split at h
  · rename_i hk
    unfold mvK at hk
    simp only [Bool.and_eq_true] at hk
    obtain ⟨k1, k2, _, k4⟩ := hk
    have hdr := wi_iff.1 k4
    obtain ⟨⟨a10, a11⟩, b10, b11⟩ := vR_iff.1 k1
    obtain ⟨⟨a20, a21⟩, b20, b21⟩ := vR_iff.1 k2
    have s1 := szOf_two o1
    have s2 := szOf_two o2
    unfold mvA pwF pwR at h
    simp only [List.mem_flatMap, List.mem_map] at h
    obtain ⟨y, hy, x, hx, rfl⟩ := h
    obtain ⟨⟨x0, x1⟩, x2, c, ⟨c0, c1⟩, c2, c3, c4⟩ := mvL_mem s2 a20 a21 hx
    obtain ⟨⟨y0, y1⟩, y2, e, ⟨e0, e1⟩, e2, e3, e4⟩ := mvL_mem s2 b20 b21 hy
    have hP : vP x y = true := vP_iff.2 ⟨⟨x0, x1⟩, y0, y1⟩
    have hK : dnK o1 a1 b1 x y = true := by unfold dnK; rw [k1, hP]; rfl
    have hl1 := lst_near s1 a10 a11 x0 x1 c0 c1 c2 c3 c4
    have hl2 := lst_near s1 b10 b11 y0 y1 e0 e1 e2 e3 e4
    have hD : dnD o1 a1 b1 x y ≤ dr := by unfold dnD; omega
    obtain ⟨u1, _⟩ := fst_spec s1 a10 a11 x0 x1 (show lst a1 (szOf o1) x ≤ dnD o1 a1 b1 x y by unfold dnD; omega)
    obtain ⟨v1, _⟩ := fst_spec s1 b10 b11 y0 y1 (show lst b1 (szOf o1) y ≤ dnD o1 a1 b1 x y by unfold dnD; omega)
    have hX : dnX o1 a1 b1 x y = fst a1 (szOf o1) x (dnD o1 a1 b1 x y) := by unfold dnX; rw [if_pos hK]
    have hY : dnY o1 a1 b1 x y = fst b1 (szOf o1) y (dnD o1 a1 b1 x y) := by unfold dnY; rw [if_pos hK]
    have abl : ∀ z : Int, ab z ≤ dr → -dr ≤ z ∧ z ≤ dr := fun z hz => by unfold ab at hz; split at hz <;> omega
    obtain ⟨p1, p2⟩ := abl _ (Int.le_trans u1 hD)
    obtain ⟨q1, q2⟩ := abl _ (Int.le_trans v1 hD)
    refine ⟨hdr, ⟨hP, x2, y2⟩, hK, ?_, ?_, ?_⟩
    · rw [hX]; exact ⟨p1, p2⟩
    · rw [hY]; exact q1
    · rw [hY]; exact q2
  · simp at h
theorem ab_gt {z d : Int} (h0 : -d ≤ z) (h1 : z ≤ d) : decide (ab z > d) = false := decide_eq_false (by unfold ab; split <;> omega)
theorem mv_round {o1 : Bool} {a1 b1 : Int} {o2 : Bool} {a2 b2 dr : Int} {p : Pt} (h : p ∈ mvV o1 a1 b1 o2 a2 b2 dr) :
    (rofO p.1 p.2 o2 = o2 ∧ rofA p.1 p.2 o2 = a2 ∧ rofB p.1 p.2 o2 = b2 ∧ vP p.1 p.2 = true) ∧ dnK o1 a1 b1 p.1 p.2 = true ∧
    (IntKind.i64.wrap (dnX o1 a1 b1 p.1 p.2 - p.1) = dnX o1 a1 b1 p.1 p.2 - p.1 ∧ IntKind.i64.wrap (dnY o1 a1 b1 p.1 p.2 - p.2) = dnY o1 a1 b1 p.1 p.2 - p.2) ∧
    ((-1000000 ≤ dnX o1 a1 b1 p.1 p.2 - p.1 ∧ dnX o1 a1 b1 p.1 p.2 - p.1 ≤ 1000000) ∧ -1000000 ≤ dnY o1 a1 b1 p.1 p.2 - p.2 ∧ dnY o1 a1 b1 p.1 p.2 - p.2 ≤ 1000000) ∧
    decide (ab (dnX o1 a1 b1 p.1 p.2 - p.1) > dr) = false ∧ decide (ab (dnY o1 a1 b1 p.1 p.2 - p.2) > dr) = false := by
  obtain ⟨⟨d0, d1⟩, ⟨m1, m2, m3⟩, m4, ⟨m5, m6⟩, m7, m8⟩ := mv_mem h
  obtain ⟨f1, f2, f3⟩ := rof_of (o := o2) m1 m2 m3
  exact ⟨⟨f1, f2, f3, m1⟩, m4, ⟨IntWalk.i64_in _ (by omega), IntWalk.i64_in _ (by omega)⟩, ⟨⟨by omega, by omega⟩, by omega, by omega⟩, ab_gt m5 m6, ab_gt m7 m8⟩
end Go.Proofs.Ytpabfkodlgglcaa
