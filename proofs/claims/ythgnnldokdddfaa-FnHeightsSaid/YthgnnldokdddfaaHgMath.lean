/- Codes of heights, and rates: plain. -/
import Derived.Test.YthgnnldokdddfaaGrayMath
import Derived.Test.YthgnnldokdddfaaHeMath
namespace Go.Proofs.Ythgnnldokdddfaa
/-- The Gray code of a number. -/
def gr (n : Int) : Int := xr n (n / 2)
theorem gr_bd {n : Int} (h0 : 0 ≤ n) (h1 : n ≤ 2047) : 0 ≤ gr n ∧ gr n ≤ 2047 := by
  have := xr_bd (a := n) (b := n / 2) 11 (by omega) (by omega)
  unfold gr
  omega
theorem gray_all : (List.range 2048).all (fun n => (fg (gr (n : Int)) == (n : Int)) && (gr (fg (n : Int)) == (n : Int))) = true := by kernel_rfl
theorem fg_gr {n : Int} (h0 : 0 ≤ n) (h1 : n ≤ 2047) : fg (gr n) = n := by
  obtain ⟨k, rfl⟩ := Int.eq_ofNat_of_zero_le h0
  have := List.all_eq_true.1 gray_all k (List.mem_range.2 (by omega))
  exact eq_of_beq (Bool.and_eq_true_iff.1 this).1
theorem gr_fg {n : Int} (h0 : 0 ≤ n) (h1 : n ≤ 2047) : gr (fg n) = n := by
  obtain ⟨k, rfl⟩ := Int.eq_ofNat_of_zero_le h0
  have := List.all_eq_true.1 gray_all k (List.mem_range.2 (by omega))
  exact eq_of_beq (Bool.and_eq_true_iff.1 this).2
theorem step_all : (List.range 1279).all (fun n => decOk (gr (n : Int)) && decOk (gr ((n : Int) + 1)) && (popL (xr (gr (n : Int)) (gr ((n : Int) + 1))) 12 == 1)) = true := by kernel_rfl
theorem gr_step {n : Int} (h0 : 0 ≤ n) (h1 : n < 1279) : cbK (gr n) (gr (n + 1)) = true ∧ cb (gr n) (gr (n + 1)) = 1 := by
  obtain ⟨k, rfl⟩ := Int.eq_ofNat_of_zero_le h0
  have := List.all_eq_true.1 step_all k (List.mem_range.2 (by omega))
  obtain ⟨a, b⟩ := Bool.and_eq_true_iff.1 this
  have c : cbK (gr (k : Int)) (gr ((k : Int) + 1)) = true := a
  exact ⟨c, by unfold cb; rw [if_pos c]; exact eq_of_beq b⟩
/-- Whether a height has a code, and the code. -/
def encK (h : Int) (f : Bool) : Bool := if f = true then decide (-1000 ≤ h ∧ h ≤ 50175 ∧ (h + 1000) % 25 = 0) else decide (-1200 ≤ h ∧ h ≤ 126700 ∧ (h + 1200) % 100 = 0)
def encV (h : Int) (f : Bool) : Int := if encK h f = true then (if f = true then 2048 + (h + 1000) / 25 else gr ((h + 1200) / 100)) else 0
theorem encK_t {h : Int} : encK h true = true ↔ (-1000 ≤ h ∧ h ≤ 50175 ∧ (h + 1000) % 25 = 0) := by simp [encK]
theorem encK_f {h : Int} : encK h false = true ↔ (-1200 ≤ h ∧ h ≤ 126700 ∧ (h + 1200) % 100 = 0) := by simp [encK]
def nearV (h : Int) (f : Bool) : Int := if isH h = true then (if f = true then (if h < -1000 then -1000 else -1000 + 25 * min ((h + 1000 + 12) / 25) 2047) else (if h < -1200 then -1200 else -1200 + 100 * min ((h + 1200 + 49) / 100) 1279)) else 0
theorem enc_dec {h : Int} {f : Bool} (hk : encK h f = true) : decOk (encV h f) = true ∧ wi (encV h f) 2048 4095 = f ∧ decV (encV h f) = h := by
  cases f
  · obtain ⟨h0, h1, h2⟩ := encK_f.1 hk
    have hv : encV h false = gr ((h + 1200) / 100) := by simp [encV, hk]
    obtain ⟨g0, g1⟩ := gr_bd (n := (h + 1200) / 100) (by omega) (by omega)
    have hf := fg_gr (n := (h + 1200) / 100) (by omega) (by omega)
    have w1 : wi (gr ((h + 1200) / 100)) 2048 4095 = false := Bool.eq_false_iff.2 (fun e => by have := wi_iff.1 e; omega)
    have w2 : wi (gr ((h + 1200) / 100)) 0 2047 = true := wi_iff.2 ⟨g0, g1⟩
    have ok : decOk (gr ((h + 1200) / 100)) = true := by simp [decOk, w1, w2, hf]; omega
    rw [hv]
    refine ⟨ok, w1, ?_⟩
    unfold decV
    rw [if_neg (by simp [w1]), if_pos ok, hf]
    omega
  · obtain ⟨h0, h1, h2⟩ := encK_t.1 hk
    have hv : encV h true = 2048 + (h + 1000) / 25 := by simp [encV, hk]
    have w1 : wi (2048 + (h + 1000) / 25) 2048 4095 = true := wi_iff.2 (by omega)
    rw [hv]
    refine ⟨by simp [decOk, w1], w1, ?_⟩
    unfold decV
    rw [if_pos w1]
    omega
theorem dec_enc {c : Int} (hk : decOk c = true) : encK (decV c) (wi c 2048 4095) = true ∧ encV (decV c) (wi c 2048 4095) = c := by
  rcases w1 : wi c 2048 4095 with _ | _
  · have w2 : wi c 0 2047 = true ∧ fg c ≤ 1279 := by simpa [decOk, w1] using hk
    obtain ⟨k0, k1⟩ := wi_iff.1 w2.1
    obtain ⟨f0, f1⟩ := fg_bd k1
    have hv : decV c = -1200 + 100 * fg c := by unfold decV; rw [if_neg (by simp [w1]), if_pos hk]
    have hk2 : encK (decV c) false = true := encK_f.2 (by rw [hv]; omega)
    refine ⟨hk2, ?_⟩
    unfold encV
    rw [if_pos hk2, if_neg (by simp), hv, show (-1200 + 100 * fg c + 1200) / 100 = fg c from by omega]
    exact gr_fg k0 k1
  · obtain ⟨k0, k1⟩ := wi_iff.1 w1
    have hv : decV c = -1000 + 25 * (c - 2048) := by unfold decV; rw [if_pos w1]
    have hk2 : encK (decV c) true = true := encK_t.2 (by rw [hv]; omega)
    refine ⟨hk2, ?_⟩
    unfold encV
    rw [if_pos hk2, if_pos rfl, hv]
    omega
theorem near_enc {h : Int} {f : Bool} (hk : encK h f = true) : isH h = true ∧ nearV h f = h := by
  cases f
  · obtain ⟨h0, h1, h2⟩ := encK_f.1 hk
    have hh : isH h = true := wi_iff.2 (by omega)
    refine ⟨hh, ?_⟩
    unfold nearV
    rw [if_pos hh, if_neg (by simp), if_neg (by omega)]
    omega
  · obtain ⟨h0, h1, h2⟩ := encK_t.1 hk
    have hh : isH h = true := wi_iff.2 (by omega)
    refine ⟨hh, ?_⟩
    unfold nearV
    rw [if_pos hh, if_pos rfl, if_neg (by omega)]
    omega
theorem near_t {h : Int} (hh : isH h = true) : nearV h true = if h < -1000 then -1000 else -1000 + 25 * min ((h + 1000 + 12) / 25) 2047 := by unfold nearV; rw [if_pos hh, if_pos rfl]
theorem near_f {h : Int} (hh : isH h = true) : nearV h false = if h < -1200 then -1200 else -1200 + 100 * min ((h + 1200 + 49) / 100) 1279 := by unfold nearV; rw [if_pos hh, if_neg (by simp)]
theorem encK_bd {h : Int} {f : Bool} (hk : encK h f = true) : -1200 ≤ h ∧ h ≤ 126700 := by
  cases f
  · have := encK_f.1 hk; omega
  · have := encK_t.1 hk; omega
def rsz (x : Int) : Int := if x < 0 then -x else x
theorem near_has {h : Int} (f : Bool) (hh : isH h = true) : encK (nearV h f) f = true ∧ (-1200 ≤ nearV h f ∧ nearV h f ≤ 126700) := by
  cases f
  · have e := near_f hh
    generalize nearV h false = N at e ⊢
    split at e
    · exact ⟨encK_f.2 (by omega), by omega⟩
    · exact ⟨encK_f.2 (by omega), by omega⟩
  · have e := near_t hh
    generalize nearV h true = N at e ⊢
    split at e
    · exact ⟨encK_t.2 (by omega), by omega⟩
    · exact ⟨encK_t.2 (by omega), by omega⟩
theorem near_t_best {h s : Int} (hs : s = 25 ∨ s = -25) (hh : isH h = true) (hk : encK (nearV h true + s) true = true) : ¬ rsz (nearV h true + s - h) < rsz (nearV h true - h) := by
  have e := near_t hh
  have k := encK_t.1 hk
  generalize nearV h true = N at e k ⊢
  unfold rsz
  split at e <;> rcases hs with rfl | rfl <;> (split <;> split <;> omega)
theorem near_f_best {h s : Int} (hs : s = 100 ∨ s = -100) (hh : isH h = true) (hk : encK (nearV h false + s) false = true) : ¬ rsz (nearV h false + s - h) < rsz (nearV h false - h) := by
  have e := near_f hh
  have k := encK_f.1 hk
  generalize nearV h false = N at e k ⊢
  unfold rsz
  split at e <;> rcases hs with rfl | rfl <;> (split <;> split <;> omega)
/-- A fraction in lowest terms. -/
def gd (a b : Int) : Nat := Nat.gcd a.natAbs b.natAbs
def redN (a b : Int) : Int := a.tdiv (gd a b)
def redD (a b : Int) : Int := b.tdiv (gd a b)
theorem gd_neg (a b : Int) : gd (-a) b = gd a b := by simp [gd]
theorem redN_neg (a b : Int) : redN (-a) b = -redN a b := by unfold redN; rw [gd_neg, Int.neg_tdiv]
theorem redD_neg (a b : Int) : redD (-a) b = redD a b := by unfold redD; rw [gd_neg]
theorem gd_pos {a b : Int} (h : 0 < b) : 0 < gd a b := Nat.gcd_pos_of_pos_right _ (by omega)
theorem gd_le {a b : Int} (h : 0 < b) : (gd a b : Int) ≤ b := by
  have := Nat.gcd_le_right a.natAbs (n := b.natAbs) (by omega)
  unfold gd; omega
theorem gcd_turn (x y : Nat) : Nat.gcd y (x % y) = Nat.gcd x y := by rw [Nat.gcd_comm y, ← Nat.gcd_rec, Nat.gcd_comm]
theorem tdiv_bd {a : Int} {d : Nat} (B : Int) (h0 : -B ≤ a) (h1 : a ≤ B) (hd : 0 < d) : -B ≤ a.tdiv d ∧ a.tdiv d ≤ B := by
  have h : (a.tdiv d).natAbs = a.natAbs / (Int.natAbs (d : Int)) := Int.natAbs_tdiv a d
  have h2 := Nat.div_le_self a.natAbs (Int.natAbs (d : Int))
  omega
/-- The rate of climbing. -/
def crK (a f b t : Int) : Bool := isH a && isH b && wi f 0 86400 && wi t (f + 1) 86400
def crN (a f b t : Int) : Int := if crK a f b t = true then redN (60 * (b - a)) (t - f) else 0
def crD (a f b t : Int) : Int := if crK a f b t = true then redD (60 * (b - a)) (t - f) else 0
theorem cr_back (a f b t : Int) : crK b f a t = crK a f b t ∧ crN b f a t = -crN a f b t ∧ crD b f a t = crD a f b t := by
  have hk : crK b f a t = crK a f b t := by unfold crK; rw [Bool.and_comm (isH b)]
  refine ⟨hk, ?_, ?_⟩
  · unfold crN; rw [hk]; split
    · rw [show 60 * (a - b) = -(60 * (b - a)) from by omega, redN_neg]
    · rfl
  · unfold crD; rw [hk]; split
    · rw [show 60 * (a - b) = -(60 * (b - a)) from by omega, redD_neg]
    · rfl
theorem crN_bd {a f b t : Int} (a0 : -3000 ≤ a) (a1 : a ≤ 140000) (b0 : -3000 ≤ b) (b1 : b ≤ 140000) : -9000000 ≤ crN a f b t ∧ crN a f b t ≤ 9000000 := by
  unfold crN
  split
  · rename_i hk
    have ht : f + 1 ≤ t := (wi_iff.1 (Bool.and_eq_true_iff.1 hk).2).1
    exact tdiv_bd 9000000 (by omega) (by omega) (gd_pos (a := 60 * (b - a)) (b := t - f) (by omega))
  · omega
end Go.Proofs.Ythgnnldokdddfaa
