/- Parity, frames and hex texts: plain lists of bytes. -/
import Derived.Test.YtbeojfhakmbacaaGrayMathP
namespace Go.Proofs.Ytbeojfhakmbacaa
/-- 1 where two lists of bits differ. -/
def xorL : List UInt8 → List UInt8 → List UInt8
  | c :: a, d :: b => (if c = d then 48 else 49) :: xorL a b
  | _, _ => []
theorem xorL_len : ∀ (a b : List UInt8), (xorL a b).length = min a.length b.length
  | [], _ => by simp [xorL]
  | _ :: _, [] => by simp [xorL]
  | c :: a, d :: b => by simp [xorL, xorL_len a b]
theorem xorL_isB : ∀ (a b : List UInt8), isB (xorL a b)
  | [], _ => isB_nil
  | _ :: _, [] => isB_nil
  | c :: a, d :: b => isB_cons (by split <;> simp) (xorL_isB a b)
theorem xorL_snoc (a b : List UInt8) (c d : UInt8) (h : a.length = b.length) : xorL (a ++ [c]) (b ++ [d]) = xorL a b ++ [if c = d then 48 else 49] := by
  induction a generalizing b with
  | nil => cases b with
    | nil => rfl
    | cons _ _ => simp at h
  | cons x a ih => cases b with
    | nil => simp at h
    | cons y b => simp [xorL, ih b (by simpa using h)]
theorem take_snocL {l : List UInt8} {k : Nat} (h : k < l.length) : l.take (k + 1) = l.take k ++ [l[k]] := List.take_succ_eq_append_getElem h
theorem xorL_take (a b : List UInt8) : ∀ k, xorL (a.take k) (b.take k) = (xorL a b).take k := by
  induction a generalizing b with
  | nil => intro k; simp [xorL]
  | cons x a ih => cases b with
    | nil => intro k; cases k <;> simp [xorL]
    | cons y b => intro k; cases k with
      | zero => simp [xorL]
      | succ k => simp [xorL, ih b k]
theorem nat_xor_two (x y b d : Nat) (hb : b < 2) (hd : d < 2) : (2 * x + b) ^^^ (2 * y + d) = 2 * (x ^^^ y) + (b ^^^ d) := by
  have h2 : b ^^^ d < 2 := Nat.xor_lt_two_pow (n := 1) hb hd
  have e1 : ((2 * x + b) ^^^ (2 * y + d)) / 2 = x ^^^ y := by
    rw [Nat.xor_div_two, show (2 * x + b) / 2 = x from by omega, show (2 * y + d) / 2 = y from by omega]
  have e2 : ((2 * x + b) ^^^ (2 * y + d)) % 2 = b ^^^ d := by
    have := Nat.xor_mod_two_pow (a := 2 * x + b) (b := 2 * y + d) (n := 1)
    rw [Nat.pow_one, show (2 * x + b) % 2 = b from by omega, show (2 * y + d) % 2 = d from by omega] at this
    exact this
  omega
theorem isB_snoc {l : List UInt8} {c : UInt8} (h : isB (l ++ [c])) : isB l ∧ (c = 48 ∨ c = 49) := ⟨fun x hx => h x (List.mem_append_left _ hx), h c (by simp)⟩
theorem isB_take {l : List UInt8} (h : isB l) (k : Nat) : isB (l.take k) := fun x hx => h x (List.mem_of_mem_take hx)
theorem isB_drop {l : List UInt8} (h : isB l) (k : Nat) : isB (l.drop k) := fun x hx => h x (List.mem_of_mem_drop hx)
theorem c48 : (UInt8.toNat 48 : Int) = 48 := rfl
theorem c49 : (UInt8.toNat 49 : Int) = 49 := rfl
theorem xr_numL : ∀ (n : Nat) (a b : List UInt8), a.length = n → b.length = n → isB a → isB b → xr (numL a) (numL b) = numL (xorL a b)
  | 0, a, b, ha, hb, _, _ => by
    obtain rfl := List.eq_nil_of_length_eq_zero ha
    obtain rfl := List.eq_nil_of_length_eq_zero hb
    rfl
  | n + 1, a, b, ha, hb, iA, iB => by
    obtain ⟨a', c, rfl⟩ : ∃ a' c, a = a' ++ [c] := ⟨a.dropLast, a.getLast (by intro e; subst e; simp at ha), (List.dropLast_concat_getLast _).symm⟩
    obtain ⟨b', d, rfl⟩ : ∃ b' d, b = b' ++ [d] := ⟨b.dropLast, b.getLast (by intro e; subst e; simp at hb), (List.dropLast_concat_getLast _).symm⟩
    have la : a'.length = n := by simpa using ha
    have lb : b'.length = n := by simpa using hb
    obtain ⟨iA', hc⟩ := isB_snoc iA
    obtain ⟨iB', hd⟩ := isB_snoc iB
    have ih := xr_numL n a' b' la lb iA' iB'
    rw [xorL_snoc _ _ _ _ (by omega), numL_snoc, numL_snoc, numL_snoc, ← ih]
    obtain ⟨p0, _⟩ := numL_bd iA'
    obtain ⟨q0, _⟩ := numL_bd iB'
    generalize numL a' = p at p0 ⊢
    generalize numL b' = q at q0 ⊢
    obtain ⟨P, rfl⟩ := Int.eq_ofNat_of_zero_le p0
    obtain ⟨Q, rfl⟩ := Int.eq_ofNat_of_zero_le q0
    have key : ∀ b d : Nat, b < 2 → d < 2 → xr (2 * (P : Int) + b) (2 * (Q : Int) + d) = 2 * xr P Q + ((b ^^^ d : Nat) : Int) := by
      intro b d hb hd
      unfold xr
      rw [show (2 * (P : Int) + b).toNat = 2 * P + b from by omega, show (2 * (Q : Int) + d).toNat = 2 * Q + d from by omega, nat_xor_two _ _ _ _ hb hd]
      simp
    have k00 := key 0 0 (by omega) (by omega)
    have k01 := key 0 1 (by omega) (by omega)
    have k10 := key 1 0 (by omega) (by omega)
    have k11 := key 1 1 (by omega) (by omega)
    have s : ∀ z : Int, 2 * z + 48 - 48 = 2 * z + ((0 : Nat) : Int) := fun z => by omega
    have t : ∀ z : Int, 2 * z + 49 - 48 = 2 * z + ((1 : Nat) : Int) := fun z => by omega
    rcases hc with rfl | rfl <;> rcases hd with rfl | rfl <;> simp only [c48, c49, s, t, if_true] 
    · rw [k00]; simp [c48]
    · rw [k01]; simp [c49]; omega
    · rw [k10]; simp [c49]; omega
    · rw [k11]; simp [c48]
def dvL : List UInt8 := [49, 49, 48, 48, 48, 48, 48, 48, 48, 49, 49, 49, 49]
theorem dvL_num : numL dvL = 6159 := by decide
theorem dvL_isB : isB dvL := by unfold isB dvL; decide
def z12 : List UInt8 := List.replicate 12 48
theorem z12_isB : isB z12 := fun c h => .inl (List.eq_of_mem_replicate h)
theorem z12_bits : bitsL 0 12 = z12 := by decide
/-- One step of the division: the first bit goes. -/
def dstep : List UInt8 → List UInt8
  | [] => []
  | c :: t => if c = 49 then xorL (t.take 12) (dvL.drop 1) ++ t.drop 12 else t
theorem dstep_cons (c : UInt8) (t : List UInt8) : dstep (c :: t) = if c = 49 then xorL (t.take 12) (dvL.drop 1) ++ t.drop 12 else t := rfl
def divN : Nat → List UInt8 → List UInt8
  | 0, l => l
  | n + 1, l => divN n (dstep l)
theorem divN_succ : ∀ (n : Nat) (l : List UInt8), divN (n + 1) l = dstep (divN n l)
  | 0, _ => rfl
  | n + 1, l => by rw [divN, divN_succ n]; rfl
theorem dstep_len {l : List UInt8} (h : 13 ≤ l.length) : (dstep l).length + 1 = l.length := by
  cases l with
  | nil => simp at h
  | cons c t =>
    rw [dstep_cons]
    have ht : 12 ≤ t.length := by simpa using h
    split
    · have hd : (dvL.drop 1).length = 12 := rfl
      rw [List.length_append, xorL_len, hd, List.length_take, List.length_drop, List.length_cons]; omega
    · simp
theorem dstep_isB {l : List UInt8} (h : isB l) : isB (dstep l) := by
  cases l with
  | nil => exact isB_nil
  | cons c t =>
    have ht : isB t := fun x hx => h x (List.mem_cons_of_mem _ hx)
    rw [dstep_cons]
    split
    · exact isB_app (xorL_isB _ _) (isB_drop ht _)
    · exact ht
theorem divN_isB : ∀ (n : Nat) {l : List UInt8}, isB l → isB (divN n l)
  | 0, _, h => h
  | n + 1, _, h => divN_isB n (dstep_isB h)
theorem divN_len : ∀ (n : Nat) {l : List UInt8}, n + 12 ≤ l.length → (divN n l).length + n = l.length
  | 0, _, _ => rfl
  | n + 1, l, h => by
    have h1 := dstep_len (l := l) (by omega)
    have h2 := divN_len n (l := dstep l) (by omega)
    rw [divN]; omega
/-- One step of the register. -/
def lstep (r : Int) (c : UInt8) : Int := if 2 * r + (if c = 49 then 1 else 0) ≥ 4096 then xr (2 * r + (if c = 49 then 1 else 0)) 6159 else 2 * r + (if c = 49 then 1 else 0)
def lfs (l : List UInt8) : Int := l.foldl lstep 0
theorem bit1 {c : UInt8} (h : c = 48 ∨ c = 49) : (c.toNat : Int) - 48 = if c = 49 then 1 else 0 := by rcases h with rfl | rfl <;> decide
theorem lfs_small : ∀ (l : List UInt8), isB l → l.length ≤ 12 → lfs l = numL l := by
  intro l
  induction hn : l.length generalizing l with
  | zero => intro _ _; obtain rfl := List.eq_nil_of_length_eq_zero hn; rfl
  | succ n ih =>
    intro hb hl
    obtain ⟨l', c, rfl⟩ : ∃ l' c, l = l' ++ [c] := ⟨l.dropLast, l.getLast (by intro e; subst e; simp at hn), (List.dropLast_concat_getLast _).symm⟩
    obtain ⟨hb', hc⟩ := isB_snoc hb
    have ln : l'.length = n := by simpa using hn
    have ih := ih l' ln hb' (by omega)
    have hB := numL_bd hb'
    have hB2 := numL_bd hb
    have hp : (2 : Int) ^ (l' ++ [c]).length ≤ 2 ^ 12 := by
      have h9 : (2 : Nat) ^ (l' ++ [c]).length ≤ 2 ^ 12 := Nat.pow_le_pow_right (by omega) (by simp; omega)
      have e9 : (((2 : Nat) ^ (l' ++ [c]).length : Nat) : Int) = (2 : Int) ^ (l' ++ [c]).length := by simp
      omega
    have hb1 := bit1 hc
    have e : lfs (l' ++ [c]) = lstep (lfs l') c := by simp [lfs]
    rw [e, ih, numL_snoc]
    rw [numL_snoc] at hB2
    unfold lstep
    rw [if_neg (by rw [← hb1]; omega), ← hb1]; omega
theorem div_lfs : ∀ (k : Nat) (l : List UInt8), isB l → l.length = k + 12 → numL (divN k l) = (l.drop 12).foldl lstep (numL (l.take 12))
  | 0, l, hb, hl => by
    rw [List.drop_of_length_le (by omega), List.take_of_length_le (by omega)]; rfl
  | k + 1, l, hb, hl => by
    cases l with
    | nil => simp at hl
    | cons c t =>
      have lt : t.length = k + 12 := by simpa using hl
      have ht : isB t := fun x hx => hb x (List.mem_cons_of_mem _ hx)
      have hc := hb c List.mem_cons_self
      have ih := div_lfs k (dstep (c :: t)) (dstep_isB hb) (by have := dstep_len (l := c :: t) (by simp; omega); simp at this; omega)
      rw [divN, ih]
      have h11 : 11 < t.length := by omega
      have e1 : (c :: t).take 12 = c :: t.take 11 := rfl
      have e2 : (c :: t).drop 12 = t[11] :: t.drop 12 := by
        rw [show (12 : Nat) = 11 + 1 from rfl, List.drop_succ_cons, List.drop_eq_getElem_cons h11]
      have e3 : t.take 12 = t.take 11 ++ [t[11]] := take_snocL h11
      have hbit := ht t[11] (List.getElem_mem h11)
      have hb1 := bit1 hbit
      have l11 : (t.take 11).length = 11 := by simp; omega
      have l12 : (t.take 12).length = 12 := by simp; omega
      have n12 : numL (t.take 12) = 2 * numL (t.take 11) + (if t[11] = 49 then 1 else 0) := by rw [e3, numL_snoc, ← hb1]; omega
      obtain ⟨b0, b1⟩ := numL_bd (isB_take ht 12)
      rw [l12] at b1
      have hd12 : (dvL.drop 1).length = 12 := rfl
      rw [e2, List.foldl_cons]
      have hdrop : (dstep (c :: t)).drop 12 = t.drop 12 := by
        rw [dstep_cons]
        split
        · rw [List.drop_append_of_le_length (by rw [xorL_len, l12, hd12]; simp), List.drop_of_length_le (by rw [xorL_len, l12, hd12]; simp)]; rfl
        · rfl
      rw [hdrop]
      congr 1
      rw [e1, numL_cons, l11]
      have pw : (2 : Int) ^ 11 = 2048 := rfl
      have pw2 : (2 : Int) ^ 12 = 4096 := rfl
      rw [pw]
      rw [pw2] at b1
      rcases hc with rfl | rfl
      · have : dstep ((48 : UInt8) :: t) = t := by rw [dstep_cons, if_neg (by decide)]
        rw [this]
        unfold lstep
        rw [c48, show ((48 : Int) - 48) * 2048 + numL (t.take 11) = numL (t.take 11) from by omega, if_neg (by omega), n12]
      · have : (dstep ((49 : UInt8) :: t)).take 12 = xorL (t.take 12) (dvL.drop 1) := by
          rw [dstep_cons, if_pos rfl, List.take_append_of_le_length (by rw [xorL_len, l12, hd12]; simp), List.take_of_length_le (by rw [xorL_len, l12, hd12]; simp)]
        rw [this]
        have hx := xr_numL 13 (49 :: t.take 12) dvL (by simp; omega) rfl (isB_cons (.inr rfl) (isB_take ht 12)) dvL_isB
        have hdv : dvL = 49 :: dvL.drop 1 := rfl
        rw [numL_cons, l12, pw2, c49, dvL_num] at hx
        have hx2 : xorL (49 :: t.take 12) dvL = 48 :: xorL (t.take 12) (dvL.drop 1) := by rw [hdv, xorL]; simp
        rw [hx2, numL_cons, c48] at hx
        unfold lstep
        rw [c49]
        have hr : 2 * ((49 - 48) * 2048 + numL (t.take 11)) + (if t[11] = 49 then 1 else 0) = (49 - 48) * 4096 + numL (t.take 12) := by rw [n12]; omega
        rw [hr, if_pos (by omega), hx]
        omega
/-- The parity as a number, and as bits. -/
def par (s : List UInt8) : Int := lfs (s ++ z12)
def parL (s : List UInt8) : List UInt8 := divN s.length (s ++ z12)
theorem par_len (s : List UInt8) : (parL s).length = 12 := by
  have := divN_len s.length (l := s ++ z12) (by simp [z12])
  unfold parL; simp [z12] at this ⊢; omega
theorem par_isB {s : List UInt8} (h : isB s) : isB (parL s) := divN_isB _ (isB_app h z12_isB)
theorem par_num {s : List UInt8} (h : isB s) : numL (parL s) = par s := by
  unfold parL par
  have hb := isB_app h z12_isB
  rw [div_lfs s.length (s ++ z12) hb (by simp [z12])]
  have h2 := lfs_small ((s ++ z12).take 12) (isB_take hb 12) (by simp; omega)
  rw [← h2]
  unfold lfs
  rw [← List.foldl_append, List.take_append_drop]
theorem par_bd {s : List UInt8} (h : isB s) : 0 ≤ par s ∧ par s < 4096 := by
  have h1 := numL_bd (par_isB h)
  rw [par_len, par_num h] at h1
  exact h1
theorem bits_num : ∀ {l : List UInt8}, isB l → bitsL (numL l) l.length = l
  | [], _ => rfl
  | c :: l, h => by
    have hl : isB l := fun x hx => h x (List.mem_cons_of_mem _ hx)
    have hc := h c List.mem_cons_self
    obtain ⟨b0, b1⟩ := numL_bd hl
    have ih := bits_num hl
    rw [List.length_cons, bitsL, numL_cons]
    have hp : (0 : Int) < 2 ^ l.length := Int.pow_pos (by omega)
    have e1 : (((c.toNat : Int) - 48) * 2 ^ l.length + numL l) / 2 ^ l.length = (c.toNat : Int) - 48 := by
      rw [Int.add_comm, Int.add_mul_ediv_right _ _ (by omega), Int.ediv_eq_zero_of_lt b0 b1]; omega
    rw [e1]
    have e2 : bit ((c.toNat : Int) - 48) = c := by rcases hc with rfl | rfl <;> rfl
    rw [e2]
    congr 1
    have h9 : ∀ (k : Nat), k ≤ l.length → bitsL (((c.toNat : Int) - 48) * 2 ^ l.length + numL l) k = bitsL (numL l) k := by
      intro k
      induction k with
      | zero => intro _; rfl
      | succ k ihk =>
        intro hk
        rw [bitsL, bitsL, ihk (by omega)]
        congr 1
        have e3 : (2 : Int) ^ l.length = 2 ^ k * (2 * 2 ^ (l.length - k - 1)) := by
          rw [← Int.mul_assoc, ← Int.pow_succ, ← Int.pow_add]; congr 1; omega
        have e4 : (((c.toNat : Int) - 48) * 2 ^ l.length + numL l) / 2 ^ k = numL l / 2 ^ k + 2 * (((c.toNat : Int) - 48) * 2 ^ (l.length - k - 1)) := by
          rw [e3, show ((c.toNat : Int) - 48) * (2 ^ k * (2 * 2 ^ (l.length - k - 1))) = (2 * (((c.toNat : Int) - 48) * 2 ^ (l.length - k - 1))) * 2 ^ k from by
            rw [Int.mul_comm (2 ^ k), ← Int.mul_assoc, ← Int.mul_assoc, Int.mul_comm ((c.toNat : Int) - 48) 2, Int.mul_assoc 2], Int.add_comm, Int.add_mul_ediv_right _ _ (Int.ne_of_gt (Int.pow_pos (by omega)))]
        rw [e4]
        unfold bit
        have e5 : (numL l / 2 ^ k + 2 * (((c.toNat : Int) - 48) * 2 ^ (l.length - k - 1))) % 2 = numL l / 2 ^ k % 2 := by omega
        rw [e5]
    rw [h9 _ (Nat.le_refl _), ih]
theorem parL_bits {s : List UInt8} (h : isB s) : bitsL (par s) 12 = parL s := by
  have := bits_num (par_isB h)
  rw [par_num h, par_len] at this
  exact this
theorem numL_inj {a b : List UInt8} (ha : isB a) (hb : isB b) (hl : a.length = b.length) (h : numL a = numL b) : a = b := by
  rw [← bits_num ha, ← bits_num hb, h, hl]
theorem xr_zero {a b : Int} (ha : 0 ≤ a) (hb : 0 ≤ b) : xr a b = 0 ↔ a = b := by
  unfold xr
  obtain ⟨A, rfl⟩ := Int.eq_ofNat_of_zero_le ha
  obtain ⟨B, rfl⟩ := Int.eq_ofNat_of_zero_le hb
  rw [Int.toNat_natCast, Int.toNat_natCast]
  constructor
  · intro h
    have h2 : A ^^^ B = 0 := by omega
    have h3 : A = B := by
      have e : (A ^^^ B) ^^^ B = A := by rw [Nat.xor_assoc, Nat.xor_self, Nat.xor_zero]
      rw [h2, Nat.zero_xor] at e
      exact e.symm
    rw [h3]
  · intro h
    have h3 : A = B := by omega
    rw [h3, Nat.xor_self]; rfl
/-- Whether a text of bits is sound. -/
def sdB (s : List UInt8) : Bool := decide (par (s.take (s.length - 12)) = numL (s.drop (s.length - 12)))
theorem onesL_xor : ∀ {a b : List UInt8}, a.length = b.length → (onesL (xorL a b) = 0 ↔ a = b)
  | [], [], _ => by simp [xorL, onesL]
  | [], _ :: _, h => by simp at h
  | _ :: _, [], h => by simp at h
  | c :: a, d :: b, h => by
    have ih := onesL_xor (a := a) (b := b) (by simpa using h)
    have hn : 0 ≤ onesL (xorL a b) := by unfold onesL; omega
    unfold xorL
    by_cases e : c = d
    · have : onesL ((if c = d then 48 else 49) :: xorL a b) = onesL (xorL a b) := by rw [if_pos e]; rfl
      rw [this, ih]; simp [e]
    · have : onesL ((if c = d then 48 else 49) :: xorL a b) = onesL (xorL a b) + 1 := by rw [if_neg e]; unfold onesL; simp
      rw [this]
      constructor
      · intro h; omega
      · intro h; exact absurd (List.cons.inj h).1 e
theorem sdB_ones {s : List UInt8} (h : isB s) (hl : 12 ≤ s.length) : (onesL (xorL (s.drop (s.length - 12)) (parL (s.take (s.length - 12)))) == 0) = sdB s := by
  have h1 := isB_take h (s.length - 12)
  have h2 := isB_drop h (s.length - 12)
  have ll : (s.drop (s.length - 12)).length = (parL (s.take (s.length - 12))).length := by rw [par_len]; simp; omega
  have hx := onesL_xor ll
  unfold sdB
  rw [← par_num h1]
  by_cases e : s.drop (s.length - 12) = parL (s.take (s.length - 12))
  · rw [hx.2 e, e]; simp
  · have hne : onesL (xorL (s.drop (s.length - 12)) (parL (s.take (s.length - 12)))) ≠ 0 := fun q => e (hx.1 q)
    rw [beq_eq_false_iff_ne.2 hne]
    exact (decide_eq_false fun q => e (numL_inj h2 (par_isB h1) ll q.symm)).symm
theorem sdB_xr {s : List UInt8} (h : isB s) : (xr (par (s.take (s.length - 12))) (numL (s.drop (s.length - 12))) == 0) = sdB s := by
  have h1 := par_bd (isB_take h (s.length - 12))
  have h2 := numL_bd (isB_drop h (s.length - 12))
  have hx := xr_zero h1.1 h2.1
  unfold sdB
  by_cases e : par (s.take (s.length - 12)) = numL (s.drop (s.length - 12))
  · rw [hx.2 e, decide_eq_true e]; rfl
  · rw [beq_eq_false_iff_ne.2 fun q => e (hx.1 q), decide_eq_false e]
/-- Another bit at an index. -/
def fbit (c : UInt8) : UInt8 := if c = 49 then 48 else 49
def flipL (s : List UInt8) (i : Nat) : List UInt8 := s.take i ++ fbit (s.getD i 0) :: s.drop (i + 1)
theorem fbit_isB (c : UInt8) : fbit c = 48 ∨ fbit c = 49 := by unfold fbit; split <;> simp
theorem flip_isB {s : List UInt8} (h : isB s) (i : Nat) : isB (flipL s i) := isB_app (isB_take h _) (isB_cons (fbit_isB _) (isB_drop h _))
theorem flip_len {s : List UInt8} {i : Nat} (h : i < s.length) : (flipL s i).length = s.length := by unfold flipL; simp; omega
def repI (s : List UInt8) : Option Nat := (List.range s.length).find? fun i => sdB (flipL s i)
/-- The repaired text, the index and whether there is one. -/
def rpK (s : List UInt8) : Bool := sdB s || (repI s).isSome
def rpI (s : List UInt8) : Int := if sdB s = true then -1 else match repI s with | some i => i | none => 0
def rpS (s : List UInt8) : List UInt8 := if sdB s = true then s else match repI s with | some i => flipL s i | none => []
theorem repI_at {s : List UInt8} {i : Nat} (hi : i < s.length) (hno : ∀ j, j < i → sdB (flipL s j) = false) (hy : sdB (flipL s i) = true) : repI s = some i := by
  unfold repI
  rw [List.find?_range_eq_some]
  exact ⟨hy, by simpa using hi, fun j hj => by simp [hno j hj]⟩
theorem repI_none {s : List UInt8} (hno : ∀ j, j < s.length → sdB (flipL s j) = false) : repI s = none := by
  unfold repI
  rw [List.find?_eq_none]
  intro x hx
  simp [hno x (by simpa using hx)]
theorem rp_sound {s : List UInt8} (h : sdB s = true) : rpK s = true ∧ rpI s = -1 ∧ rpS s = s := ⟨by unfold rpK; rw [h]; rfl, by unfold rpI; rw [if_pos h], by unfold rpS; rw [if_pos h]⟩
theorem rp_at {s : List UInt8} {i : Nat} (h : sdB s = false) (hr : repI s = some i) : rpK s = true ∧ rpI s = i ∧ rpS s = flipL s i :=
  ⟨by unfold rpK; rw [hr]; simp, by unfold rpI; rw [if_neg (by rw [h]; simp), hr], by unfold rpS; rw [if_neg (by rw [h]; simp), hr]⟩
theorem rp_none {s : List UInt8} (h : sdB s = false) (hr : repI s = none) : rpK s = false ∧ rpI s = 0 ∧ rpS s = [] :=
  ⟨by unfold rpK; rw [h, hr]; rfl, by unfold rpI; rw [if_neg (by rw [h]; simp), hr], by unfold rpS; rw [if_neg (by rw [h]; simp), hr]⟩
theorem rp_len {s : List UInt8} (h : rpK s = true) : (rpS s).length = s.length := by
  rcases hs : sdB s with _ | _
  · rcases hr : repI s with _ | i
    · rw [(rp_none hs hr).1] at h; cases h
    · rw [(rp_at hs hr).2.2]
      unfold repI at hr
      rw [List.find?_range_eq_some] at hr
      exact flip_len (by simpa using hr.2.1)
  · rw [(rp_sound hs).2.2]
theorem rp_isB {s : List UInt8} (h : isB s) : isB (rpS s) := by
  rcases hs : sdB s with _ | _
  · rcases hr : repI s with _ | i
    · rw [(rp_none hs hr).2.2]; exact isB_nil
    · rw [(rp_at hs hr).2.2]; exact flip_isB h i
  · rw [(rp_sound hs).2.2]; exact h
/-! Frames. -/
def fKd (l : List UInt8) : Int := numL (l.take 4)
def fAd (l : List UInt8) : Int := numL ((l.drop 4).take 16)
def fDt (l : List UInt8) : Int := numL ((l.drop 20).take 24)
def vFr (k a d : Int) : Bool := wi k 1 4 && wi a 1 65535 && wi d 0 16777215
def frK (l : List UInt8) : Bool := vFr (fKd l) (fAd l) (fDt l)
/-! Hex texts. -/
def hexL : List UInt8 := [48, 49, 50, 51, 52, 53, 54, 55, 56, 57, 65, 66, 67, 68, 69, 70]
def hxp (c : UInt8) : Nat → Int
  | 0 => -1
  | k + 1 => if hexL.getD k 0 = c then (k : Int) else hxp c k
def hxd (c : UInt8) : Int := hxp c 16
theorem hxp_bd (c : UInt8) : ∀ k, -1 ≤ hxp c k ∧ hxp c k < k
  | 0 => by simp [hxp]
  | k + 1 => by have := hxp_bd c k; unfold hxp; split <;> omega
theorem hxd_bd (c : UInt8) : -1 ≤ hxd c ∧ hxd c < 16 := hxp_bd c 16
theorem hxd_at {i : Nat} (hi : i < 16) : hxd (hexL.getD i 0) = i := by
  have h : ∀ i : Fin 16, hxd (hexL.getD i.1 0) = (i.1 : Int) := by decide
  exact h ⟨i, hi⟩
theorem hxd_none {c : UInt8} (h : ∀ j, j < 16 → hexL.getD j 0 ≠ c) : hxd c = -1 := by
  have : ∀ k, k ≤ 16 → hxp c k = -1 := by
    intro k
    induction k with
    | zero => intro _; rfl
    | succ k ih => intro hk; rw [hxp, if_neg (h k (by omega)), ih (by omega)]
  exact this 16 (by omega)
def hxA (l : List UInt8) : List UInt8 := l.flatMap fun c => bitsL (hxd c) 4
def hxO (l : List UInt8) : Bool := l.all fun c => decide (0 ≤ hxd c)
theorem hxA_len (l : List UInt8) : (hxA l).length = 4 * l.length := by
  induction l with
  | nil => rfl
  | cons c l ih => unfold hxA at ih ⊢; rw [List.flatMap_cons, List.length_append, ih, bitsL_len]; simp; omega
theorem hxA_isB (l : List UInt8) : isB (hxA l) := by
  intro c hc
  unfold hxA at hc
  obtain ⟨d, _, hd⟩ := List.mem_flatMap.1 hc
  exact bitsL_isB _ _ c hd
theorem hxA_snoc (l : List UInt8) (c : UInt8) : hxA (l ++ [c]) = hxA l ++ bitsL (hxd c) 4 := by unfold hxA; simp
def hxK (s : ByteArray) : Bool := decide (s.size ≤ 16) && hxO s.data.toList
def hxB (s : ByteArray) : List UInt8 := if hxK s = true then hxA s.data.toList else []
theorem hxB_isB (s : ByteArray) : isB (hxB s) := by unfold hxB; split; exact hxA_isB _; exact isB_nil
theorem hxB_len (s : ByteArray) : (hxB s).length ≤ 64 := by
  unfold hxB
  split
  · rename_i h
    unfold hxK at h
    have h1 := of_decide_eq_true (Bool.and_eq_true_iff.1 h).1
    rw [hxA_len]
    have : s.data.toList.length = s.size := by simp
    omega
  · simp
theorem hxO_no {l : List UInt8} {i : Nat} (hi : i < l.length) (h : hxd l[i] < 0) : hxO l = false := by
  unfold hxO
  rw [List.all_eq_false]
  exact ⟨l[i], List.getElem_mem hi, by simp; omega⟩
theorem hxO_step {l : List UInt8} {i : Nat} (hi : i < l.length) (h0 : hxO (l.take i) = true) (h : 0 ≤ hxd l[i]) : hxO (l.take (i + 1)) = true := by
  rw [take_snocL hi]
  unfold hxO at h0 ⊢
  rw [List.all_append, h0]
  simp [h]
/-! A frame out of a hex text. -/
def rfK (s : ByteArray) : Bool := hxK s && decide ((hxB s).length = 56) && rpK (hxB s) && frK (rpS (hxB s))
def rfZ (s : ByteArray) (v : Int) : Int := if rfK s = true then v else 0
def rfKd (s : ByteArray) : Int := rfZ s (fKd (rpS (hxB s)))
def rfAd (s : ByteArray) : Int := rfZ s (fAd (rpS (hxB s)))
def rfDt (s : ByteArray) : Int := rfZ s (fDt (rpS (hxB s)))
def rfI (s : ByteArray) : Int := rfZ s (rpI (hxB s))
theorem rf_no {s : ByteArray} (h : rfK s = false) : rfKd s = 0 ∧ rfAd s = 0 ∧ rfDt s = 0 ∧ rfI s = 0 := by
  have hn : ¬ rfK s = true := by rw [h]; simp
  exact ⟨if_neg hn, if_neg hn, if_neg hn, if_neg hn⟩
theorem rf_yes {s : ByteArray} (h : rfK s = true) : rfKd s = fKd (rpS (hxB s)) ∧ rfAd s = fAd (rpS (hxB s)) ∧ rfDt s = fDt (rpS (hxB s)) ∧ rfI s = rpI (hxB s) := ⟨if_pos h, if_pos h, if_pos h, if_pos h⟩
theorem rf_valid {s : ByteArray} (h : rfK s = true) : (1 ≤ rfKd s ∧ rfKd s ≤ 4) ∧ (1 ≤ rfAd s ∧ rfAd s ≤ 65535) ∧ 0 ≤ rfDt s ∧ rfDt s ≤ 16777215 := by
  obtain ⟨e1, e2, e3, _⟩ := rf_yes h
  unfold rfK frK vFr at h
  simp only [Bool.and_eq_true] at h
  rw [e1, e2, e3]
  exact ⟨wi_iff.1 h.2.1.1, wi_iff.1 h.2.1.2, wi_iff.1 h.2.2⟩
end Go.Proofs.Ytbeojfhakmbacaa
