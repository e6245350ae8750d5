/- Plain arithmetic of places and reports: no program in sight. -/
namespace Go.Proofs.Ytbeojfhakmbacaa

/-- n lies in a..b. -/
def wi (n a b : Int) : Bool := decide (a ≤ n) && decide (n ≤ b)
theorem wi_iff {n a b : Int} : wi n a b = true ↔ a ≤ n ∧ n ≤ b := by simp [wi]
theorem wi_no {n a b : Int} : wi n a b = false ↔ ¬ (a ≤ n ∧ n ≤ b) := by rw [← wi_iff]; simp
def vP (x y : Int) : Bool := wi x 0 9899 && wi y 0 9899
def szOf (o : Bool) : Int := if o then 99 else 100
def vR (o : Bool) (a b : Int) : Bool := wi a 0 (szOf o - 1) && wi b 0 (szOf o - 1)
theorem vP_iff {x y : Int} : vP x y = true ↔ (0 ≤ x ∧ x ≤ 9899) ∧ (0 ≤ y ∧ y ≤ 9899) := by simp [vP, wi_iff]
theorem szOf_two (o : Bool) : szOf o = 99 ∨ szOf o = 100 := by cases o <;> simp [szOf]
theorem vR_iff {o : Bool} {a b : Int} : vR o a b = true ↔ (0 ≤ a ∧ a < szOf o) ∧ (0 ≤ b ∧ b < szOf o) := by
  simp [vR, wi_iff]; omega

/-- The coordinate with two remainders. -/
def bo (e o : Int) : Int := (100 * o - 99 * e) % 9900
theorem bo_spec {e o : Int} (h0 : 0 ≤ e) (h1 : e < 100) (h2 : 0 ≤ o) (h3 : o < 99) : 0 ≤ bo e o ∧ bo e o ≤ 9899 ∧ bo e o % 100 = e ∧ bo e o % 99 = o := by
  unfold bo; omega
theorem crt {n m : Int} (h0 : 0 ≤ n) (h1 : n ≤ 9899) (h2 : 0 ≤ m) (h3 : m ≤ 9899) (ha : n % 100 = m % 100) (hb : n % 99 = m % 99) : n = m := by omega
theorem bo_of {n : Int} (h0 : 0 ≤ n) (h1 : n ≤ 9899) : bo (n % 100) (n % 99) = n := by
  obtain ⟨a, b, c, d⟩ := bo_spec (e := n % 100) (o := n % 99) (by omega) (by omega) (by omega) (by omega)
  exact crt a b h0 h1 c d

/-- The smallest difference of a coordinate with a remainder from n. -/
def lst (r s n : Int) : Int :=
  let d := (n - r) % s
  if n < r then r - n else if n + (s - d) ≤ 9899 ∧ s - d < d then s - d else d
/-- The coordinate at which it is met. -/
def lstAt (r s n : Int) : Int :=
  let d := (n - r) % s
  if n < r then r else if n + (s - d) ≤ 9899 ∧ s - d < d then n + (s - d) else n - d
def ab (n : Int) : Int := if n < 0 then -n else n
theorem ab_spec (n : Int) : (0 ≤ n → ab n = n) ∧ (n < 0 → ab n = -n) ∧ 0 ≤ ab n := by unfold ab; split <;> omega

/-- The smallest coordinate that is near by d. -/
def fst (r s n d : Int) : Int := if n - d ≤ r then r else (n - d) + (r - (n - d)) % s

theorem vR_bd {o : Bool} {a b : Int} (h : vR o a b = true) : (0 ≤ a ∧ a < 100) ∧ (0 ≤ b ∧ b < 100) := by
  have h1 := vR_iff.1 h
  have := szOf_two o
  omega
theorem vR_bd99 {a b : Int} (h : vR true a b = true) : (0 ≤ a ∧ a < 99) ∧ (0 ≤ b ∧ b < 99) := by
  have h1 := vR_iff.1 h
  simp [szOf] at h1
  omega
def rofO (x y : Int) (o : Bool) : Bool := vP x y && o
def rofA (x y : Int) (o : Bool) : Int := if vP x y = true then x % szOf o else 0
def rofB (x y : Int) (o : Bool) : Int := if vP x y = true then y % szOf o else 0
def pkU (o : Bool) (a b : Int) : Int := 128 * a + b + (if o then 16384 else 0)
def pkV (o : Bool) (a b : Int) : Int := if vR o a b = true then pkU o a b else 0
def upK (d : Int) : Bool := wi d 0 32767 && vR (decide (16384 ≤ d)) (d % 16384 / 128) (d % 128)
def upO (d : Int) : Bool := upK d && decide (16384 ≤ d)
def upA (d : Int) : Int := if upK d = true then d % 16384 / 128 else 0
def upB (d : Int) : Int := if upK d = true then d % 128 else 0
def dpK (o1 : Bool) (a1 b1 : Int) (o2 : Bool) (a2 b2 : Int) : Bool := vR o1 a1 b1 && vR o2 a2 b2 && !o1 && o2
def dpX (o1 : Bool) (a1 b1 : Int) (o2 : Bool) (a2 b2 : Int) : Int := if dpK o1 a1 b1 o2 a2 b2 = true then bo a1 a2 else 0
def dpY (o1 : Bool) (a1 b1 : Int) (o2 : Bool) (a2 b2 : Int) : Int := if dpK o1 a1 b1 o2 a2 b2 = true then bo b1 b2 else 0
def dnK (o : Bool) (a b x y : Int) : Bool := vR o a b && vP x y
def dnD (o : Bool) (a b x y : Int) : Int := max (lst a (szOf o) x) (lst b (szOf o) y)
def dnX (o : Bool) (a b x y : Int) : Int := if dnK o a b x y = true then fst a (szOf o) x (dnD o a b x y) else 0
def dnY (o : Bool) (a b x y : Int) : Int := if dnK o a b x y = true then fst b (szOf o) y (dnD o a b x y) else 0

/-! The loops' facts. -/
theorem lst_ge {r s n c : Int} (hs : s = 99 ∨ s = 100) (h0 : 0 ≤ r) (h1 : r < s) (h2 : 0 ≤ n) (h3 : n ≤ 9899) (k : Int) (hk : 0 ≤ k) (hc : c = r + s * k) (h4 : c ≤ 9899) : lst r s n ≤ ab (c - n) := by
  unfold lst ab
  rcases hs with rfl | rfl <;> simp only [] <;> (repeat' split) <;> omega
theorem lst_at {r s n : Int} (hs : s = 99 ∨ s = 100) (h0 : 0 ≤ r) (h1 : r < s) (h2 : 0 ≤ n) (h3 : n ≤ 9899) :
    ab (lstAt r s n - n) = lst r s n ∧ 0 ≤ lstAt r s n ∧ lstAt r s n ≤ 9899 ∧ r ≤ lstAt r s n ∧ (lstAt r s n - r) % s = 0 ∧ 0 ≤ lst r s n := by
  unfold lstAt lst ab
  rcases hs with rfl | rfl <;> simp only [] <;> (repeat' split) <;> omega
theorem fst_spec {r s n d : Int} (hs : s = 99 ∨ s = 100) (h0 : 0 ≤ r) (h1 : r < s) (h2 : 0 ≤ n) (h3 : n ≤ 9899) (hd : lst r s n ≤ d) :
    ab (fst r s n d - n) ≤ d ∧ r ≤ fst r s n d ∧ fst r s n d ≤ 9899 ∧ (fst r s n d - r) % s = 0 ∧ ∀ c k : Int, 0 ≤ k → c = r + s * k → c < fst r s n d → d < ab (c - n) := by
  obtain ⟨e1, e2, e3, e4, e5, e6⟩ := lst_at hs h0 h1 h2 h3
  have hab : ∀ z : Int, ab z = if z < 0 then -z else z := fun _ => rfl
  unfold fst
  rw [hab] at e1
  refine ⟨?_, ?_, ?_, ?_, fun c k hk hc hlt => ?_⟩
  · rw [hab]
    rcases hs with rfl | rfl <;> split at e1 <;> split <;> split <;> omega
  · rcases hs with rfl | rfl <;> split <;> omega
  · rcases hs with rfl | rfl <;> split at e1 <;> split <;> omega
  · rcases hs with rfl | rfl <;> split <;> omega
  · rw [hab]
    rcases hs with rfl | rfl <;> split at hlt <;> split <;> omega
theorem lst_lt {r s n c : Int} (hs : s = 99 ∨ s = 100) (h0 : 0 ≤ r) (h1 : r < s) (h2 : 0 ≤ n) (h3 : n ≤ 9899) (k : Int) (hk : 0 ≤ k) (hc : c = r + s * k) (h4 : c < lstAt r s n) : lst r s n < ab (c - n) := by
  unfold lst ab
  unfold lstAt at h4
  rcases hs with rfl | rfl <;> simp only [] at h4 ⊢ <;> (repeat' split at h4) <;> (repeat' split) <;> omega
theorem lst_le {r s n : Int} (hs : s = 99 ∨ s = 100) (h0 : 0 ≤ r) (h1 : r < s) (h2 : 0 ≤ n) (h3 : n ≤ 9899) : lst r s n ≤ 9899 := by
  unfold lst
  rcases hs with rfl | rfl <;> simp only [] <;> (repeat' split) <;> omega
end Go.Proofs.Ytbeojfhakmbacaa
