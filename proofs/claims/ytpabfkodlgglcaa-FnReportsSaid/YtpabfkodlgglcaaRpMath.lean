/- Reports: what the laws ask, plain. -/
import Derived.Test.YtpabfkodlgglcaaPwMath
namespace Go.Proofs.Ytpabfkodlgglcaa
open Go.RowKit
theorem pk_up {o : Bool} {a b : Int} (h : vR o a b = true) : upK (pkV o a b) = true ∧ upO (pkV o a b) = o ∧ upA (pkV o a b) = a ∧ upB (pkV o a b) = b := by
  obtain ⟨⟨a0, a1⟩, b0, b1⟩ := vR_bd h
  have hv : pkV o a b = 128 * a + b + (if o then 16384 else 0) := by unfold pkV pkU; rw [if_pos h]
  obtain ⟨d, hd⟩ : ∃ d, pkV o a b = d := ⟨_, rfl⟩
  rw [hd] at hv ⊢
  have e0 : 0 ≤ d ∧ d ≤ 32767 := by cases o <;> simp at hv <;> omega
  have e1 : decide (16384 ≤ d) = o := by cases o <;> simp at hv ⊢ <;> omega
  have e2 : d % 16384 / 128 = a := by cases o <;> simp at hv <;> omega
  have e3 : d % 128 = b := by cases o <;> simp at hv <;> omega
  have hk : upK d = true := by unfold upK; rw [e1, e2, e3, h, wi_iff.2 e0]; rfl
  exact ⟨hk, by unfold upO; rw [hk, e1]; rfl, by unfold upA; rw [if_pos hk, e2], by unfold upB; rw [if_pos hk, e3]⟩
theorem up_pk {d : Int} (hk : upK d = true) : vR (upO d) (upA d) (upB d) = true ∧ pkV (upO d) (upA d) (upB d) = d := by
  have h := hk
  unfold upK at h
  obtain ⟨h1, h2⟩ := Bool.and_eq_true_iff.1 h
  have e0 := wi_iff.1 h1
  have e1 : upO d = decide (16384 ≤ d) := by unfold upO; rw [hk]; rfl
  have e2 : upA d = d % 16384 / 128 := by unfold upA; rw [if_pos hk]
  have e3 : upB d = d % 128 := by unfold upB; rw [if_pos hk]
  rw [e1, e2, e3]
  refine ⟨h2, ?_⟩
  unfold pkV pkU
  rw [if_pos h2]
  by_cases g : 16384 ≤ d
  · simp [g]; omega
  · simp [g]; omega
theorem rof_of {x y a b : Int} {o : Bool} (h : vP x y = true) (ha : x % szOf o = a) (hb : y % szOf o = b) : rofO x y o = o ∧ rofA x y o = a ∧ rofB x y o = b :=
  ⟨by unfold rofO; rw [h]; rfl, by unfold rofA; rw [if_pos h, ha], by unfold rofB; rw [if_pos h, hb]⟩
theorem dn_rep {o : Bool} {a b x y : Int} (h : dnK o a b x y = true) : vR o a b = true ∧ vP (dnX o a b x y) (dnY o a b x y) = true ∧ dnX o a b x y % szOf o = a ∧ dnY o a b x y % szOf o = b := by
  have h0 := h
  unfold dnK at h0
  obtain ⟨h1, h2⟩ := Bool.and_eq_true_iff.1 h0
  obtain ⟨⟨a0, a1⟩, b0, b1⟩ := vR_iff.1 h1
  obtain ⟨⟨x0, x1⟩, y0, y1⟩ := vP_iff.1 h2
  have hs := szOf_two o
  have hX : dnX o a b x y = fst a (szOf o) x (dnD o a b x y) := by unfold dnX; rw [if_pos h]
  have hY : dnY o a b x y = fst b (szOf o) y (dnD o a b x y) := by unfold dnY; rw [if_pos h]
  obtain ⟨_, u1, u2, u3, _⟩ := fst_spec hs a0 a1 x0 x1 (show lst a (szOf o) x ≤ dnD o a b x y by unfold dnD; omega)
  obtain ⟨_, v1, v2, v3, _⟩ := fst_spec hs b0 b1 y0 y1 (show lst b (szOf o) y ≤ dnD o a b x y by unfold dnD; omega)
  rw [hX, hY]
  generalize szOf o = s at hs a1 b1 u1 u2 u3 v1 v2 v3 ⊢
  refine ⟨h1, vP_iff.2 ⟨⟨by omega, u2⟩, by omega, v2⟩, ?_, ?_⟩
  · rcases hs with rfl | rfl <;> omega
  · rcases hs with rfl | rfl <;> omega
theorem xsN_one {s r lo : Int} (h : lo % s = r) : xsN s r lo 1 = [lo] := by
  have := xsN_yes (s := s) (r := r) (lo := lo) (n := 0) (by simpa using h)
  simpa [xsN_zero] using this
theorem pw_one {o : Bool} {a b x y : Int} (hr : vR o a b = true) (hp : vP x y = true) (ha : x % szOf o = a) (hb : y % szOf o = b) : pwK o a b x y x y = true ∧ pwV o a b x y x y = [(x, y)] := by
  have hA : pwA o a b x y x y = [(x, y)] := by
    unfold pwA
    rw [show (x + 1 - x).toNat = 1 from by omega, show (y + 1 - y).toNat = 1 from by omega, xsN_one ha, xsN_one hb]
    rfl
  have hk : pwK o a b x y x y = true := by unfold pwK pwK0; rw [hA, hr, hp]; simp
  exact ⟨hk, by unfold pwV; rw [if_pos hk, hA]⟩
theorem xsN_mem {s r lo v : Int} {n : Nat} (h : v ∈ xsN s r lo n) : lo ≤ v ∧ v < lo + n ∧ v % s = r := by
  unfold xsN at h
  simp only [List.mem_filter, List.mem_map, List.mem_range, decide_eq_true_eq] at h
  obtain ⟨⟨k, hk, rfl⟩, h2⟩ := h
  exact ⟨by omega, by omega, h2⟩
theorem pw_mem {o : Bool} {a b lx ly hx hy : Int} {p : Pt} (h : p ∈ pwV o a b lx ly hx hy) : vP p.1 p.2 = true ∧ p.1 % szOf o = a ∧ p.2 % szOf o = b := by
  unfold pwV at h
  split at h
  · rename_i hk
    unfold pwK pwK0 at hk
    simp only [Bool.and_eq_true, decide_eq_true_eq] at hk
    obtain ⟨⟨_, h1, h2, h3, h4⟩, _⟩ := hk
    obtain ⟨⟨c0, c1⟩, c2, c3⟩ := vP_iff.1 h1
    obtain ⟨⟨d0, d1⟩, d2, d3⟩ := vP_iff.1 h2
    unfold pwA pwF pwR at h
    simp only [List.mem_flatMap, List.mem_map] at h
    obtain ⟨y, hy', x, hx', rfl⟩ := h
    obtain ⟨x0, x1, x2⟩ := xsN_mem hx'
    obtain ⟨y0, y1, y2⟩ := xsN_mem hy'
    exact ⟨vP_iff.2 ⟨⟨by omega, by omega⟩, by omega, by omega⟩, x2, y2⟩
  · simp at h
end Go.Proofs.Ytpabfkodlgglcaa
