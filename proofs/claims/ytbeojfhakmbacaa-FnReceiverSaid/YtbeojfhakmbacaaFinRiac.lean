/- What is proved here is used by the law below: contracts of functions and plain lemmas (part 3 of 17). Their conditions stand in each. -/
import Derived.Test.YtbeojfhakmbacaaFinRiaa
import Derived.Test.YtbeojfhakmbacaaFinRiab
namespace Go.Proofs.Ytbeojfhakmbacaa
def xorL : List UInt8 → List UInt8 → List UInt8
  | c :: a, d :: b => (if c = d then 48 else 49) :: xorL a b
  | _, _ => []
theorem xorL_len : ∀ (a b : List UInt8), (xorL a b).length = min a.length b.length
  | [], _ => by simp [xorL]
  | _ :: _, [] => by simp [xorL]
  | c :: a, d :: b => by simp [xorL, xorL_len a b]
theorem xorL_isB : ∀ (a b : List UInt8), isB (xorL a b)
  | [], _ => isB_nil
  | _ :: _, [] => isB_nil
  | c :: a, d :: b => isB_cons (by split <;> simp) (xorL_isB a b)
theorem xorL_snoc (a b : List UInt8) (c d : UInt8) (h : a.length = b.length) : xorL (a ++ [c]) (b ++ [d]) = xorL a b ++ [if c = d then 48 else 49] := by
  induction a generalizing b with
  | nil => cases b with
    | nil => rfl
    | cons _ _ => simp at h
  | cons x a ih => cases b with
    | nil => simp at h
    | cons y b => simp [xorL, ih b (by simpa using h)]
theorem take_snocL {l : List UInt8} {k : Nat} (h : k < l.length) : l.take (k + 1) = l.take k ++ [l[k]] := List.take_succ_eq_append_getElem h
theorem xorL_take (a b : List UInt8) : ∀ k, xorL (a.take k) (b.take k) = (xorL a b).take k := by
  induction a generalizing b with
  | nil => intro k; simp [xorL]
  | cons x a ih => cases b with
    | nil => intro k; cases k <;> simp [xorL]
    | cons y b => intro k; cases k with
      | zero => simp [xorL]
      | succ k => simp [xorL, ih b k]
theorem nat_xor_two (x y b d : Nat) (hb : b < 2) (hd : d < 2) : (2 * x + b) ^^^ (2 * y + d) = 2 * (x ^^^ y) + (b ^^^ d) := by
  have h2 : b ^^^ d < 2 := Nat.xor_lt_two_pow (n := 1) hb hd
  have e1 : ((2 * x + b) ^^^ (2 * y + d)) / 2 = x ^^^ y := by
    rw [Nat.xor_div_two, show (2 * x + b) / 2 = x from by omega, show (2 * y + d) / 2 = y from by omega]
  have e2 : ((2 * x + b) ^^^ (2 * y + d)) % 2 = b ^^^ d := by
    have := Nat.xor_mod_two_pow (a := 2 * x + b) (b := 2 * y + d) (n := 1)
    rw [Nat.pow_one, show (2 * x + b) % 2 = b from by omega, show (2 * y + d) % 2 = d from by omega] at this
    exact this
  omega
theorem isB_snoc {l : List UInt8} {c : UInt8} (h : isB (l ++ [c])) : isB l ∧ (c = 48 ∨ c = 49) := ⟨fun x hx => h x (List.mem_append_left _ hx), h c (by simp)⟩
theorem isB_take {l : List UInt8} (h : isB l) (k : Nat) : isB (l.take k) := fun x hx => h x (List.mem_of_mem_take hx)
theorem isB_drop {l : List UInt8} (h : isB l) (k : Nat) : isB (l.drop k) := fun x hx => h x (List.mem_of_mem_drop hx)
theorem c48 : (UInt8.toNat 48 : Int) = 48 := rfl
theorem c49 : (UInt8.toNat 49 : Int) = 49 := rfl
theorem xr_numL : ∀ (n : Nat) (a b : List UInt8), a.length = n → b.length = n → isB a → isB b → xr (numL a) (numL b) = numL (xorL a b)
  | 0, a, b, ha, hb, _, _ => by
    obtain rfl := List.eq_nil_of_length_eq_zero ha
    obtain rfl := List.eq_nil_of_length_eq_zero hb
    rfl
  | n + 1, a, b, ha, hb, iA, iB => by
    obtain ⟨a', c, rfl⟩ : ∃ a' c, a = a' ++ [c] := ⟨a.dropLast, a.getLast (by intro e; subst e; simp at ha), (List.dropLast_concat_getLast _).symm⟩
    obtain ⟨b', d, rfl⟩ : ∃ b' d, b = b' ++ [d] := ⟨b.dropLast, b.getLast (by intro e; subst e; simp at hb), (List.dropLast_concat_getLast _).symm⟩
    have la : a'.length = n := by simpa using ha
    have lb : b'.length = n := by simpa using hb
    obtain ⟨iA', hc⟩ := isB_snoc iA
    obtain ⟨iB', hd⟩ := isB_snoc iB
    have ih := xr_numL n a' b' la lb iA' iB'
    rw [xorL_snoc _ _ _ _ (by omega), numL_snoc, numL_snoc, numL_snoc, ← ih]
    obtain ⟨p0, _⟩ := numL_bd iA'
    obtain ⟨q0, _⟩ := numL_bd iB'
    generalize numL a' = p at p0 ⊢
    generalize numL b' = q at q0 ⊢
    obtain ⟨P, rfl⟩ := Int.eq_ofNat_of_zero_le p0
    obtain ⟨Q, rfl⟩ := Int.eq_ofNat_of_zero_le q0
    have key : ∀ b d : Nat, b < 2 → d < 2 → xr (2 * (P : Int) + b) (2 * (Q : Int) + d) = 2 * xr P Q + ((b ^^^ d : Nat) : Int) := by
      intro b d hb hd
      unfold xr
      rw [show (2 * (P : Int) + b).toNat = 2 * P + b from by omega, show (2 * (Q : Int) + d).toNat = 2 * Q + d from by omega, nat_xor_two _ _ _ _ hb hd]
      simp
    have k00 := key 0 0 (by omega) (by omega)
    have k01 := key 0 1 (by omega) (by omega)
    have k10 := key 1 0 (by omega) (by omega)
    have k11 := key 1 1 (by omega) (by omega)
    have s : ∀ z : Int, 2 * z + 48 - 48 = 2 * z + ((0 : Nat) : Int) := fun z => by omega
    have t : ∀ z : Int, 2 * z + 49 - 48 = 2 * z + ((1 : Nat) : Int) := fun z => by omega
    rcases hc with rfl | rfl <;> rcases hd with rfl | rfl <;> simp only [c48, c49, s, t, if_true] 
    · rw [k00]; simp [c48]
    · rw [k01]; simp [c49]; omega
    · rw [k10]; simp [c49]; omega
    · rw [k11]; simp [c48]
def dvL : List UInt8 := [49, 49, 48, 48, 48, 48, 48, 48, 48, 49, 49, 49, 49]
theorem dvL_num : numL dvL = 6159 := by decide
theorem dvL_isB : isB dvL := by unfold isB dvL; decide
def z12 : List UInt8 := List.replicate 12 48
theorem z12_isB : isB z12 := fun c h => .inl (List.eq_of_mem_replicate h)
theorem z12_bits : bitsL 0 12 = z12 := by decide
def dstep : List UInt8 → List UInt8
  | [] => []
  | c :: t => if c = 49 then xorL (t.take 12) (dvL.drop 1) ++ t.drop 12 else t
theorem dstep_cons (c : UInt8) (t : List UInt8) : dstep (c :: t) = if c = 49 then xorL (t.take 12) (dvL.drop 1) ++ t.drop 12 else t := rfl
def divN : Nat → List UInt8 → List UInt8
  | 0, l => l
  | n + 1, l => divN n (dstep l)
theorem divN_succ : ∀ (n : Nat) (l : List UInt8), divN (n + 1) l = dstep (divN n l)
  | 0, _ => rfl
  | n + 1, l => by rw [divN, divN_succ n]; rfl
theorem dstep_len {l : List UInt8} (h : 13 ≤ l.length) : (dstep l).length + 1 = l.length := by
  cases l with
  | nil => simp at h
  | cons c t =>
    rw [dstep_cons]
    have ht : 12 ≤ t.length := by simpa using h
    split
    · have hd : (dvL.drop 1).length = 12 := rfl
      rw [List.length_append, xorL_len, hd, List.length_take, List.length_drop, List.length_cons]; omega
    · simp
theorem dstep_isB {l : List UInt8} (h : isB l) : isB (dstep l) := by
  cases l with
  | nil => exact isB_nil
  | cons c t =>
    have ht : isB t := fun x hx => h x (List.mem_cons_of_mem _ hx)
    rw [dstep_cons]
    split
    · exact isB_app (xorL_isB _ _) (isB_drop ht _)
    · exact ht
theorem divN_isB : ∀ (n : Nat) {l : List UInt8}, isB l → isB (divN n l)
  | 0, _, h => h
  | n + 1, _, h => divN_isB n (dstep_isB h)
theorem divN_len : ∀ (n : Nat) {l : List UInt8}, n + 12 ≤ l.length → (divN n l).length + n = l.length
  | 0, _, _ => rfl
  | n + 1, l, h => by
    have h1 := dstep_len (l := l) (by omega)
    have h2 := divN_len n (l := dstep l) (by omega)
    rw [divN]; omega
def lstep (r : Int) (c : UInt8) : Int := if 2 * r + (if c = 49 then 1 else 0) ≥ 4096 then xr (2 * r + (if c = 49 then 1 else 0)) 6159 else 2 * r + (if c = 49 then 1 else 0)
def lfs (l : List UInt8) : Int := l.foldl lstep 0
theorem bit1 {c : UInt8} (h : c = 48 ∨ c = 49) : (c.toNat : Int) - 48 = if c = 49 then 1 else 0 := by rcases h with rfl | rfl <;> decide
theorem lfs_small : ∀ (l : List UInt8), isB l → l.length ≤ 12 → lfs l = numL l := by
  intro l
  induction hn : l.length generalizing l with
  | zero => intro _ _; obtain rfl := List.eq_nil_of_length_eq_zero hn; rfl
  | succ n ih =>
    intro hb hl
    obtain ⟨l', c, rfl⟩ : ∃ l' c, l = l' ++ [c] := ⟨l.dropLast, l.getLast (by intro e; subst e; simp at hn), (List.dropLast_concat_getLast _).symm⟩
    obtain ⟨hb', hc⟩ := isB_snoc hb
    have ln : l'.length = n := by simpa using hn
    have ih := ih l' ln hb' (by omega)
    have hB := numL_bd hb'
    have hB2 := numL_bd hb
    have hp : (2 : Int) ^ (l' ++ [c]).length ≤ 2 ^ 12 := by
      have h9 : (2 : Nat) ^ (l' ++ [c]).length ≤ 2 ^ 12 := Nat.pow_le_pow_right (by omega) (by simp; omega)
      have e9 : (((2 : Nat) ^ (l' ++ [c]).length : Nat) : Int) = (2 : Int) ^ (l' ++ [c]).length := by simp
      omega
    have hb1 := bit1 hc
    have e : lfs (l' ++ [c]) = lstep (lfs l') c := by simp [lfs]
    rw [e, ih, numL_snoc]
    rw [numL_snoc] at hB2
    unfold lstep
    rw [if_neg (by rw [← hb1]; omega), ← hb1]; omega
theorem div_lfs : ∀ (k : Nat) (l : List UInt8), isB l → l.length = k + 12 → numL (divN k l) = (l.drop 12).foldl lstep (numL (l.take 12))
  | 0, l, hb, hl => by
    rw [List.drop_of_length_le (by omega), List.take_of_length_le (by omega)]; rfl
  | k + 1, l, hb, hl => by
    cases l with
    | nil => simp at hl
    | cons c t =>
      have lt : t.length = k + 12 := by simpa using hl
      have ht : isB t := fun x hx => hb x (List.mem_cons_of_mem _ hx)
      have hc := hb c List.mem_cons_self
      have ih := div_lfs k (dstep (c :: t)) (dstep_isB hb) (by have := dstep_len (l := c :: t) (by simp; omega); simp at this; omega)
      rw [divN, ih]
      have h11 : 11 < t.length := by omega
      have e1 : (c :: t).take 12 = c :: t.take 11 := rfl
      have e2 : (c :: t).drop 12 = t[11] :: t.drop 12 := by
        rw [show (12 : Nat) = 11 + 1 from rfl, List.drop_succ_cons, List.drop_eq_getElem_cons h11]
      have e3 : t.take 12 = t.take 11 ++ [t[11]] := take_snocL h11
      have hbit := ht t[11] (List.getElem_mem h11)
      have hb1 := bit1 hbit
      have l11 : (t.take 11).length = 11 := by simp; omega
      have l12 : (t.take 12).length = 12 := by simp; omega
      have n12 : numL (t.take 12) = 2 * numL (t.take 11) + (if t[11] = 49 then 1 else 0) := by rw [e3, numL_snoc, ← hb1]; omega
      obtain ⟨b0, b1⟩ := numL_bd (isB_take ht 12)
      rw [l12] at b1
      have hd12 : (dvL.drop 1).length = 12 := rfl
      rw [e2, List.foldl_cons]
      have hdrop : (dstep (c :: t)).drop 12 = t.drop 12 := by
        rw [dstep_cons]
        split
        · rw [List.drop_append_of_le_length (by rw [xorL_len, l12, hd12]; simp), List.drop_of_length_le (by rw [xorL_len, l12, hd12]; simp)]; rfl
        · rfl
      rw [hdrop]
      congr 1
      rw [e1, numL_cons, l11]
      have pw : (2 : Int) ^ 11 = 2048 := rfl
      have pw2 : (2 : Int) ^ 12 = 4096 := rfl
      rw [pw]
      rw [pw2] at b1
      rcases hc with rfl | rfl
      · have : dstep ((48 : UInt8) :: t) = t := by rw [dstep_cons, if_neg (by decide)]
        rw [this]
        unfold lstep
        rw [c48, show ((48 : Int) - 48) * 2048 + numL (t.take 11) = numL (t.take 11) from by omega, if_neg (by omega), n12]
      · have : (dstep ((49 : UInt8) :: t)).take 12 = xorL (t.take 12) (dvL.drop 1) := by
          rw [dstep_cons, if_pos rfl, List.take_append_of_le_length (by rw [xorL_len, l12, hd12]; simp), List.take_of_length_le (by rw [xorL_len, l12, hd12]; simp)]
        rw [this]
        have hx := xr_numL 13 (49 :: t.take 12) dvL (by simp; omega) rfl (isB_cons (.inr rfl) (isB_take ht 12)) dvL_isB
        have hdv : dvL = 49 :: dvL.drop 1 := rfl
        rw [numL_cons, l12, pw2, c49, dvL_num] at hx
        have hx2 : xorL (49 :: t.take 12) dvL = 48 :: xorL (t.take 12) (dvL.drop 1) := by rw [hdv, xorL]; simp
        rw [hx2, numL_cons, c48] at hx
        unfold lstep
        rw [c49]
        have hr : 2 * ((49 - 48) * 2048 + numL (t.take 11)) + (if t[11] = 49 then 1 else 0) = (49 - 48) * 4096 + numL (t.take 12) := by rw [n12]; omega
        rw [hr, if_pos (by omega), hx]
        omega
def par (s : List UInt8) : Int := lfs (s ++ z12)
def parL (s : List UInt8) : List UInt8 := divN s.length (s ++ z12)
theorem par_len (s : List UInt8) : (parL s).length = 12 := by
  have := divN_len s.length (l := s ++ z12) (by simp [z12])
  unfold parL; simp [z12] at this ⊢; omega
theorem par_isB {s : List UInt8} (h : isB s) : isB (parL s) := divN_isB _ (isB_app h z12_isB)
theorem par_num {s : List UInt8} (h : isB s) : numL (parL s) = par s := by
  unfold parL par
  have hb := isB_app h z12_isB
  rw [div_lfs s.length (s ++ z12) hb (by simp [z12])]
  have h2 := lfs_small ((s ++ z12).take 12) (isB_take hb 12) (by simp; omega)
  rw [← h2]
  unfold lfs
  rw [← List.foldl_append, List.take_append_drop]
theorem par_bd {s : List UInt8} (h : isB s) : 0 ≤ par s ∧ par s < 4096 := by
  have h1 := numL_bd (par_isB h)
  rw [par_len, par_num h] at h1
  exact h1
theorem bits_num : ∀ {l : List UInt8}, isB l → bitsL (numL l) l.length = l
  | [], _ => rfl
  | c :: l, h => by
    have hl : isB l := fun x hx => h x (List.mem_cons_of_mem _ hx)
    have hc := h c List.mem_cons_self
    obtain ⟨b0, b1⟩ := numL_bd hl
    have ih := bits_num hl
    rw [List.length_cons, bitsL, numL_cons]
    have hp : (0 : Int) < 2 ^ l.length := Int.pow_pos (by omega)
    have e1 : (((c.toNat : Int) - 48) * 2 ^ l.length + numL l) / 2 ^ l.length = (c.toNat : Int) - 48 := by
      rw [Int.add_comm, Int.add_mul_ediv_right _ _ (by omega), Int.ediv_eq_zero_of_lt b0 b1]; omega
    rw [e1]
    have e2 : bit ((c.toNat : Int) - 48) = c := by rcases hc with rfl | rfl <;> rfl
    rw [e2]
    congr 1
    have h9 : ∀ (k : Nat), k ≤ l.length → bitsL (((c.toNat : Int) - 48) * 2 ^ l.length + numL l) k = bitsL (numL l) k := by
      intro k
      induction k with
      | zero => intro _; rfl
      | succ k ihk =>
        intro hk
        rw [bitsL, bitsL, ihk (by omega)]
        congr 1
        have e3 : (2 : Int) ^ l.length = 2 ^ k * (2 * 2 ^ (l.length - k - 1)) := by
          rw [← Int.mul_assoc, ← Int.pow_succ, ← Int.pow_add]; congr 1; omega
        have e4 : (((c.toNat : Int) - 48) * 2 ^ l.length + numL l) / 2 ^ k = numL l / 2 ^ k + 2 * (((c.toNat : Int) - 48) * 2 ^ (l.length - k - 1)) := by
          rw [e3, show ((c.toNat : Int) - 48) * (2 ^ k * (2 * 2 ^ (l.length - k - 1))) = (2 * (((c.toNat : Int) - 48) * 2 ^ (l.length - k - 1))) * 2 ^ k from by
            rw [Int.mul_comm (2 ^ k), ← Int.mul_assoc, ← Int.mul_assoc, Int.mul_comm ((c.toNat : Int) - 48) 2, Int.mul_assoc 2], Int.add_comm, Int.add_mul_ediv_right _ _ (Int.ne_of_gt (Int.pow_pos (by omega)))]
        rw [e4]
        unfold bit
        have e5 : (numL l / 2 ^ k + 2 * (((c.toNat : Int) - 48) * 2 ^ (l.length - k - 1))) % 2 = numL l / 2 ^ k % 2 := by omega
        rw [e5]
    rw [h9 _ (Nat.le_refl _), ih]
theorem parL_bits {s : List UInt8} (h : isB s) : bitsL (par s) 12 = parL s := by
  have := bits_num (par_isB h)
  rw [par_num h, par_len] at this
  exact this
theorem numL_inj {a b : List UInt8} (ha : isB a) (hb : isB b) (hl : a.length = b.length) (h : numL a = numL b) : a = b := by
  rw [← bits_num ha, ← bits_num hb, h, hl]
theorem xr_zero {a b : Int} (ha : 0 ≤ a) (hb : 0 ≤ b) : xr a b = 0 ↔ a = b := by
  unfold xr
  obtain ⟨A, rfl⟩ := Int.eq_ofNat_of_zero_le ha
  obtain ⟨B, rfl⟩ := Int.eq_ofNat_of_zero_le hb
  rw [Int.toNat_natCast, Int.toNat_natCast]
  constructor
  · intro h
    have h2 : A ^^^ B = 0 := by omega
    have h3 : A = B := by
      have e : (A ^^^ B) ^^^ B = A := by rw [Nat.xor_assoc, Nat.xor_self, Nat.xor_zero]
      rw [h2, Nat.zero_xor] at e
      exact e.symm
    rw [h3]
  · intro h
    have h3 : A = B := by omega
    rw [h3, Nat.xor_self]; rfl
def sdB (s : List UInt8) : Bool := decide (par (s.take (s.length - 12)) = numL (s.drop (s.length - 12)))
theorem onesL_xor : ∀ {a b : List UInt8}, a.length = b.length → (onesL (xorL a b) = 0 ↔ a = b)
  | [], [], _ => by simp [xorL, onesL]
  | [], _ :: _, h => by simp at h
  | _ :: _, [], h => by simp at h
  | c :: a, d :: b, h => by
    have ih := onesL_xor (a := a) (b := b) (by simpa using h)
    have hn : 0 ≤ onesL (xorL a b) := by unfold onesL; omega
    unfold xorL
    by_cases e : c = d
    · have : onesL ((if c = d then 48 else 49) :: xorL a b) = onesL (xorL a b) := by rw [if_pos e]; rfl
      rw [this, ih]; simp [e]
    · have : onesL ((if c = d then 48 else 49) :: xorL a b) = onesL (xorL a b) + 1 := by rw [if_neg e]; unfold onesL; simp
      rw [this]
      constructor
      · intro h; omega
      · intro h; exact absurd (List.cons.inj h).1 e
theorem sdB_ones {s : List UInt8} (h : isB s) (hl : 12 ≤ s.length) : (onesL (xorL (s.drop (s.length - 12)) (parL (s.take (s.length - 12)))) == 0) = sdB s := by
  have h1 := isB_take h (s.length - 12)
  have h2 := isB_drop h (s.length - 12)
  have ll : (s.drop (s.length - 12)).length = (parL (s.take (s.length - 12))).length := by rw [par_len]; simp; omega
  have hx := onesL_xor ll
  unfold sdB
  rw [← par_num h1]
  by_cases e : s.drop (s.length - 12) = parL (s.take (s.length - 12))
  · rw [hx.2 e, e]; simp
  · have hne : onesL (xorL (s.drop (s.length - 12)) (parL (s.take (s.length - 12)))) ≠ 0 := fun q => e (hx.1 q)
    rw [beq_eq_false_iff_ne.2 hne]
    exact (decide_eq_false fun q => e (numL_inj h2 (par_isB h1) ll q.symm)).symm
theorem sdB_xr {s : List UInt8} (h : isB s) : (xr (par (s.take (s.length - 12))) (numL (s.drop (s.length - 12))) == 0) = sdB s := by
  have h1 := par_bd (isB_take h (s.length - 12))
  have h2 := numL_bd (isB_drop h (s.length - 12))
  have hx := xr_zero h1.1 h2.1
  unfold sdB
  by_cases e : par (s.take (s.length - 12)) = numL (s.drop (s.length - 12))
  · rw [hx.2 e, decide_eq_true e]; rfl
  · rw [beq_eq_false_iff_ne.2 fun q => e (hx.1 q), decide_eq_false e]
def fbit (c : UInt8) : UInt8 := if c = 49 then 48 else 49
def flipL (s : List UInt8) (i : Nat) : List UInt8 := s.take i ++ fbit (s.getD i 0) :: s.drop (i + 1)
theorem fbit_isB (c : UInt8) : fbit c = 48 ∨ fbit c = 49 := by unfold fbit; split <;> simp
theorem flip_isB {s : List UInt8} (h : isB s) (i : Nat) : isB (flipL s i) := isB_app (isB_take h _) (isB_cons (fbit_isB _) (isB_drop h _))
theorem flip_len {s : List UInt8} {i : Nat} (h : i < s.length) : (flipL s i).length = s.length := by unfold flipL; simp; omega
def repI (s : List UInt8) : Option Nat := (List.range s.length).find? fun i => sdB (flipL s i)
def rpK (s : List UInt8) : Bool := sdB s || (repI s).isSome
def rpI (s : List UInt8) : Int := if sdB s = true then -1 else match repI s with | some i => i | none => 0
def rpS (s : List UInt8) : List UInt8 := if sdB s = true then s else match repI s with | some i => flipL s i | none => []
theorem repI_at {s : List UInt8} {i : Nat} (hi : i < s.length) (hno : ∀ j, j < i → sdB (flipL s j) = false) (hy : sdB (flipL s i) = true) : repI s = some i := by
  unfold repI
  rw [List.find?_range_eq_some]
  exact ⟨hy, by simpa using hi, fun j hj => by simp [hno j hj]⟩
theorem repI_none {s : List UInt8} (hno : ∀ j, j < s.length → sdB (flipL s j) = false) : repI s = none := by
  unfold repI
  rw [List.find?_eq_none]
  intro x hx
  simp [hno x (by simpa using hx)]
theorem rp_sound {s : List UInt8} (h : sdB s = true) : rpK s = true ∧ rpI s = -1 ∧ rpS s = s := ⟨by unfold rpK; rw [h]; rfl, by unfold rpI; rw [if_pos h], by unfold rpS; rw [if_pos h]⟩
theorem rp_at {s : List UInt8} {i : Nat} (h : sdB s = false) (hr : repI s = some i) : rpK s = true ∧ rpI s = i ∧ rpS s = flipL s i :=
  ⟨by unfold rpK; rw [hr]; simp, by unfold rpI; rw [if_neg (by rw [h]; simp), hr], by unfold rpS; rw [if_neg (by rw [h]; simp), hr]⟩
theorem rp_none {s : List UInt8} (h : sdB s = false) (hr : repI s = none) : rpK s = false ∧ rpI s = 0 ∧ rpS s = [] :=
  ⟨by unfold rpK; rw [h, hr]; rfl, by unfold rpI; rw [if_neg (by rw [h]; simp), hr], by unfold rpS; rw [if_neg (by rw [h]; simp), hr]⟩
theorem rp_len {s : List UInt8} (h : rpK s = true) : (rpS s).length = s.length := by
  rcases hs : sdB s with _ | _
  · rcases hr : repI s with _ | i
    · rw [(rp_none hs hr).1] at h; cases h
    · rw [(rp_at hs hr).2.2]
      unfold repI at hr
      rw [List.find?_range_eq_some] at hr
      exact flip_len (by simpa using hr.2.1)
  · rw [(rp_sound hs).2.2]
theorem rp_isB {s : List UInt8} (h : isB s) : isB (rpS s) := by
  rcases hs : sdB s with _ | _
  · rcases hr : repI s with _ | i
    · rw [(rp_none hs hr).2.2]; exact isB_nil
    · rw [(rp_at hs hr).2.2]; exact flip_isB h i
  · rw [(rp_sound hs).2.2]; exact h
/-! Frames. -/
def fKd (l : List UInt8) : Int := numL (l.take 4)
def fAd (l : List UInt8) : Int := numL ((l.drop 4).take 16)
def fDt (l : List UInt8) : Int := numL ((l.drop 20).take 24)
def vFr (k a d : Int) : Bool := wi k 1 4 && wi a 1 65535 && wi d 0 16777215
def frK (l : List UInt8) : Bool := vFr (fKd l) (fAd l) (fDt l)
/-! Hex texts. -/
def hexL : List UInt8 := [48, 49, 50, 51, 52, 53, 54, 55, 56, 57, 65, 66, 67, 68, 69, 70]
def hxp (c : UInt8) : Nat → Int
  | 0 => -1
  | k + 1 => if hexL.getD k 0 = c then (k : Int) else hxp c k
def hxd (c : UInt8) : Int := hxp c 16
theorem hxp_bd (c : UInt8) : ∀ k, -1 ≤ hxp c k ∧ hxp c k < k
  | 0 => by simp [hxp]
  | k + 1 => by have := hxp_bd c k; unfold hxp; split <;> omega
theorem hxd_bd (c : UInt8) : -1 ≤ hxd c ∧ hxd c < 16 := hxp_bd c 16
theorem hxd_at {i : Nat} (hi : i < 16) : hxd (hexL.getD i 0) = i := by
  have h : ∀ i : Fin 16, hxd (hexL.getD i.1 0) = (i.1 : Int) := by decide
  exact h ⟨i, hi⟩
theorem hxd_none {c : UInt8} (h : ∀ j, j < 16 → hexL.getD j 0 ≠ c) : hxd c = -1 := by
  have : ∀ k, k ≤ 16 → hxp c k = -1 := by
    intro k
    induction k with
    | zero => intro _; rfl
    | succ k ih => intro hk; rw [hxp, if_neg (h k (by omega)), ih (by omega)]
  exact this 16 (by omega)
def hxA (l : List UInt8) : List UInt8 := l.flatMap fun c => bitsL (hxd c) 4
def hxO (l : List UInt8) : Bool := l.all fun c => decide (0 ≤ hxd c)
theorem hxA_len (l : List UInt8) : (hxA l).length = 4 * l.length := by
  induction l with
  | nil => rfl
  | cons c l ih => unfold hxA at ih ⊢; rw [List.flatMap_cons, List.length_append, ih, bitsL_len]; simp; omega
theorem hxA_isB (l : List UInt8) : isB (hxA l) := by
  intro c hc
  unfold hxA at hc
  obtain ⟨d, _, hd⟩ := List.mem_flatMap.1 hc
  exact bitsL_isB _ _ c hd
theorem hxA_snoc (l : List UInt8) (c : UInt8) : hxA (l ++ [c]) = hxA l ++ bitsL (hxd c) 4 := by unfold hxA; simp
def hxK (s : ByteArray) : Bool := decide (s.size ≤ 16) && hxO s.data.toList
def hxB (s : ByteArray) : List UInt8 := if hxK s = true then hxA s.data.toList else []
theorem hxB_isB (s : ByteArray) : isB (hxB s) := by unfold hxB; split; exact hxA_isB _; exact isB_nil
theorem hxB_len (s : ByteArray) : (hxB s).length ≤ 64 := by
  unfold hxB
  split
  · rename_i h
    unfold hxK at h
    have h1 := of_decide_eq_true (Bool.and_eq_true_iff.1 h).1
    rw [hxA_len]
    have : s.data.toList.length = s.size := by simp
    omega
  · simp
theorem hxO_no {l : List UInt8} {i : Nat} (hi : i < l.length) (h : hxd l[i] < 0) : hxO l = false := by
  unfold hxO
  rw [List.all_eq_false]
  exact ⟨l[i], List.getElem_mem hi, by simp; omega⟩
theorem hxO_step {l : List UInt8} {i : Nat} (hi : i < l.length) (h0 : hxO (l.take i) = true) (h : 0 ≤ hxd l[i]) : hxO (l.take (i + 1)) = true := by
  rw [take_snocL hi]
  unfold hxO at h0 ⊢
  rw [List.all_append, h0]
  simp [h]
/-! A frame out of a hex text. -/
def rfK (s : ByteArray) : Bool := hxK s && decide ((hxB s).length = 56) && rpK (hxB s) && frK (rpS (hxB s))
def rfZ (s : ByteArray) (v : Int) : Int := if rfK s = true then v else 0
def rfKd (s : ByteArray) : Int := rfZ s (fKd (rpS (hxB s)))
def rfAd (s : ByteArray) : Int := rfZ s (fAd (rpS (hxB s)))
def rfDt (s : ByteArray) : Int := rfZ s (fDt (rpS (hxB s)))
def rfI (s : ByteArray) : Int := rfZ s (rpI (hxB s))
theorem rf_no {s : ByteArray} (h : rfK s = false) : rfKd s = 0 ∧ rfAd s = 0 ∧ rfDt s = 0 ∧ rfI s = 0 := by
  have hn : ¬ rfK s = true := by rw [h]; simp
  exact ⟨if_neg hn, if_neg hn, if_neg hn, if_neg hn⟩
theorem rf_yes {s : ByteArray} (h : rfK s = true) : rfKd s = fKd (rpS (hxB s)) ∧ rfAd s = fAd (rpS (hxB s)) ∧ rfDt s = fDt (rpS (hxB s)) ∧ rfI s = rpI (hxB s) := ⟨if_pos h, if_pos h, if_pos h, if_pos h⟩
end Go.Proofs.Ytbeojfhakmbacaa
namespace Go.Proofs.Ytbeojfhakmbacaa
open Go.RowKit
def nwH (A : Int) : Hd := (A, (false, 0, 0), -1, (false, 0, 0), -1, 0)
def rcI (A : Int) : List Hd → Nat
  | [] => 0
  | h :: l => if h.1 < A then rcI A l + 1 else 0
theorem hx_succ (h : Hd) (l : List Hd) (k : Nat) : hx (h :: l) (k + 1) = hx l k := rfl
theorem hx_zero (h : Hd) (l : List Hd) : hx (h :: l) 0 = h := rfl
theorem rcI_le (A : Int) : ∀ l, rcI A l ≤ l.length
  | [] => Nat.le_refl _
  | h :: l => by have := rcI_le A l; simp only [rcI, List.length_cons]; split <;> omega
theorem rcI_lt (A : Int) : ∀ (l : List Hd) (j : Nat), j < rcI A l → (hx l j).1 < A
  | [], j, h => by simp [rcI] at h
  | x :: l, j, h => by
    simp only [rcI] at h
    split at h
    · rename_i hx1
      cases j with
      | zero => exact hx1
      | succ j => rw [hx_succ]; exact rcI_lt A l j (by omega)
    · omega
theorem rcI_at (A : Int) : ∀ l : List Hd, rcI A l < l.length → ¬ (hx l (rcI A l)).1 < A
  | [], h => by simp [rcI] at h
  | x :: l, h => by
    by_cases hx1 : x.1 < A
    · have e : rcI A (x :: l) = rcI A l + 1 := by simp only [rcI]; rw [if_pos hx1]
      rw [e] at h ⊢
      rw [hx_succ]
      exact rcI_at A l (by simpa using h)
    · have e : rcI A (x :: l) = 0 := by simp only [rcI]; rw [if_neg hx1]
      rw [e, hx_zero]
      exact hx1
theorem rcI_eq {A : Int} {l : List Hd} {i : Nat} (hi : i ≤ l.length) (h1 : ∀ j, j < i → (hx l j).1 < A) (h2 : i < l.length → ¬ (hx l i).1 < A) : rcI A l = i := by
  rcases Nat.lt_trichotomy (rcI A l) i with h | h | h
  · exact absurd (h1 _ h) (rcI_at A l (by omega))
  · exact h
  · exact absurd (rcI_lt A l i h) (h2 (by have := rcI_le A l; omega))
theorem asc_lt {m : Int} {l : List Hd} (h : okR m l = true) : ∀ d i, i + d + 1 < l.length → (hx l i).1 < (hx l (i + d + 1)).1
  | 0, i, hi => by
    have := ((okR_iff h).2.2 (i + 1) hi).2 (by omega)
    simpa using this
  | d + 1, i, hi => by
    have a := asc_lt h d i (by omega)
    have b := ((okR_iff h).2.2 (i + d + 1 + 1) (by omega)).2 (by omega)
    have b2 : (hx l (i + d + 1)).1 < (hx l (i + d + 1 + 1)).1 := by simpa using b
    have e : i + (d + 1) + 1 = i + d + 1 + 1 := by omega
    rw [e]
    omega
theorem asc_at {m : Int} {l : List Hd} (h : okR m l = true) {i j : Nat} (hij : i < j) (hj : j < l.length) : (hx l i).1 < (hx l j).1 := by
  have := asc_lt h (j - i - 1) i (by omega)
  rwa [show i + (j - i - 1) + 1 = j from by omega] at this
def rcH (A : Int) (l : List Hd) : Prop := rcI A l < l.length ∧ (hx l (rcI A l)).1 = A
instance (A : Int) (l : List Hd) : Decidable (rcH A l) := inferInstanceAs (Decidable (_ ∧ _))
theorem fnd_yes {m : Int} {l : List Hd} {A : Int} (hk : rcH A l) : fndV l A = (rcI A l : Int) :=
  fnd_some hk.1 (fun j hj => by have := rcI_lt A l j hj; omega) hk.2
theorem no_of {m : Int} {l : List Hd} {A : Int} (h : okR m l = true) (hk : ¬ rcH A l) : ∀ j, j < l.length → (hx l j).1 ≠ A := by
  intro j hj e
  have hi : rcI A l = j := rcI_eq (by omega) (fun i hi => by have := asc_at h hi hj; omega) (fun _ => by omega)
  exact hk ⟨by omega, by rw [hi]; exact e⟩
theorem fnd_not {m : Int} {l : List Hd} {A : Int} (h : okR m l = true) (hk : ¬ rcH A l) : fndV l A = -1 := fnd_none (fun j hj => no_of h hk j hj)
def bubL (l : List Hd) (A : Int) (i : Nat) : List Hd := l.take i ++ nwH A :: l.drop i
theorem bub_len (l : List Hd) (A : Int) (i : Nat) : (bubL l A i).length = l.length + 1 := by simp [bubL]; omega
theorem bub_end (l : List Hd) (A : Int) : bubL l A l.length = l ++ [nwH A] := by simp [bubL]
theorem hx_app {a b : List Hd} {k : Nat} (h : a.length ≤ k) : hx (a ++ b) k = hx b (k - a.length) := by
  unfold hx; rw [List.getD_eq_getElem?_getD, List.getD_eq_getElem?_getD, List.getElem?_append_right h]
theorem hx_appl {a b : List Hd} {k : Nat} (h : k < a.length) : hx (a ++ b) k = hx a k := by
  unfold hx; rw [List.getD_eq_getElem?_getD, List.getD_eq_getElem?_getD, List.getElem?_append_left h]
theorem hx_take {l : List Hd} {i k : Nat} (h : k < i) : hx (l.take i) k = hx l k := by
  unfold hx; rw [List.getD_eq_getElem?_getD, List.getD_eq_getElem?_getD, List.getElem?_take, if_pos h]
theorem bub_at {l : List Hd} {A : Int} {i : Nat} (h : i ≤ l.length) : hx (bubL l A i) i = nwH A := by
  unfold bubL
  rw [hx_app (by rw [List.length_take]; omega), List.length_take, show i - min i l.length = 0 from by omega]
  rfl
theorem bub_low {l : List Hd} {A : Int} {i k : Nat} (h : i ≤ l.length) (hk : k < i) : hx (bubL l A i) k = hx l k := by
  unfold bubL
  rw [hx_appl (by rw [List.length_take]; omega), hx_take hk]
theorem drop_hx {l : List Hd} {i : Nat} (h : i < l.length) : l.drop i = hx l i :: l.drop (i + 1) := by
  rw [List.drop_eq_getElem_cons h]; unfold hx; rw [List.getD_eq_getElem?_getD, List.getElem?_eq_getElem h]; rfl
theorem set_at (a : List Hd) (x y : Hd) (b : List Hd) {i : Nat} (h : i = a.length) : (a ++ x :: b).set i y = a ++ y :: b := by subst h; simp
theorem bub_swap {l : List Hd} {A : Int} {j : Nat} (h : j < l.length) : ((bubL l A (j + 1)).set j (nwH A)).set (j + 1) (hx l j) = bubL l A j := by
  have e : bubL l A (j + 1) = l.take j ++ hx l j :: (nwH A :: l.drop (j + 1)) := by unfold bubL; rw [take_hd l j h]; simp
  have hl : j = (l.take j).length := by rw [List.length_take]; omega
  rw [e, set_at _ _ _ _ hl]
  have e2 : l.take j ++ nwH A :: (nwH A :: l.drop (j + 1)) = (l.take j ++ [nwH A]) ++ nwH A :: l.drop (j + 1) := by simp
  rw [e2, set_at _ _ _ _ (by rw [List.length_append, ← hl]; rfl)]
  unfold bubL
  rw [drop_hx h]
  simp
theorem bub_stop {m : Int} {l : List Hd} {A : Int} {i : Nat} (h : okR m l = true) (hk : ¬ rcH A l) (hi : i ≤ l.length) (h1 : ∀ j, i ≤ j → j < l.length → A < (hx l j).1) (h2 : 0 < i → ¬ A < (hx l (i - 1)).1) : rcI A l = i := by
  refine rcI_eq hi (fun j hj => ?_) (fun hl => by have := h1 i (Nat.le_refl _) hl; omega)
  have hn := no_of h hk
  have h3 : (hx l (i - 1)).1 < A := by have a := h2 (by omega); have b := hn (i - 1) (by omega); omega
  by_cases e : j = i - 1
  · rw [e]; exact h3
  · have := asc_at h (show j < i - 1 by omega) (by omega)
    omega
def rcB (A : Int) (l : List Hd) : List Hd := if rcH A l then l else bubL l A (rcI A l)
def upH (t K D : Int) (h : Hd) : Hd :=
  if upK D = true ∧ K = 2 then (if upO D = true then (h.1, h.2.1, h.2.2.1, (upO D, upA D, upB D), t, h.2.2.2.2.2 + 1) else (h.1, (upO D, upA D, upB D), t, h.2.2.2.1, h.2.2.2.2.1, h.2.2.2.2.2 + 1))
  else (h.1, h.2.1, h.2.2.1, h.2.2.2.1, h.2.2.2.2.1, h.2.2.2.2.2 + 1)
theorem rcB_at (A : Int) (l : List Hd) : rcI A l < (rcB A l).length := by
  unfold rcB
  split
  · rename_i h; exact h.1
  · rw [bub_len]; have := rcI_le A l; omega
theorem rcB_len (A : Int) (l : List Hd) : (rcB A l).length ≤ l.length + 1 := by
  unfold rcB; split
  · omega
  · rw [bub_len]; omega
def rcL (t A K D : Int) (l : List Hd) : List Hd := (rcB A l).set (rcI A l) (upH t K D (hx (rcB A l) (rcI A l)))
theorem rcL_len (t A K D : Int) (l : List Hd) : (rcL t A K D l).length ≤ l.length + 1 := by unfold rcL; rw [List.length_set]; exact rcB_len A l
def rvK (m : Int) (l : List Hd) (s : ByteArray) (t : Int) : Bool := rfK s && (decide (m ≤ t) && okR t (rcL t (rfAd s) (rfKd s) (rfDt s) l))
def rvM (m : Int) (l : List Hd) (s : ByteArray) (t : Int) : Int := if rvK m l s t = true then t else 0
def rvV (m : Int) (l : List Hd) (s : ByteArray) (t : Int) : List Hd := if rvK m l s t = true then rcL t (rfAd s) (rfKd s) (rfDt s) l else []
theorem rvV_len (m : Int) (l : List Hd) (s : ByteArray) (t : Int) : (rvV m l s t).length ≤ l.length + 1 := by
  unfold rvV; split
  · exact rcL_len _ _ _ _ _
  · simp
theorem rv_no {m : Int} {l : List Hd} {s : ByteArray} {t : Int} (h : rvK m l s t = false) : rvK m l s t = false ∧ rvM m l s t = 0 ∧ rvV m l s t = [] := ⟨h, by unfold rvM; rw [h]; rfl, by unfold rvV; rw [h]; rfl⟩
theorem rv_yes {m : Int} {l : List Hd} {s : ByteArray} {t : Int} (h : rvK m l s t = true) : rvK m l s t = true ∧ rvM m l s t = t ∧ rvV m l s t = rcL t (rfAd s) (rfKd s) (rfDt s) l := ⟨h, by unfold rvM; rw [if_pos h], by unfold rvV; rw [if_pos h]⟩
theorem rv_ok {m : Int} {l : List Hd} {s : ByteArray} {t : Int} (h : rvK m l s t = true) : okR (rvM m l s t) (rvV m l s t) = true := by
  obtain ⟨_, e1, e2⟩ := rv_yes h
  rw [e1, e2]
  unfold rvK at h
  simp only [Bool.and_eq_true] at h
  exact h.2.2
/-! ### Ten cells of a row set -/
theorem hds_parts {L : List Hd} {i : Nat} (hi : i < L.length) : hds L = hds (L.take i) ++ (hdc (hx L i) ++ hds (L.drop (i + 1))) ∧ (hds (L.take i)).length = i * 10 ∧ ∀ h, hds (L.set i h) = hds (L.take i) ++ (hdc h ++ hds (L.drop (i + 1))) := by
  have hl : i = (L.take i).length := by rw [List.length_take]; omega
  have e : L = L.take i ++ hx L i :: L.drop (i + 1) := by rw [← drop_hx hi, List.take_append_drop]
  refine ⟨?_, by rw [hds_len, ← hl], fun h => ?_⟩
  · conv => lhs; rw [e]
    rw [hds_app, hds_cons]
  · conv => lhs; rw [e]
    rw [set_at _ _ _ _ hl, hds_app, hds_cons]
theorem set_ten {L : List Hd} {i : Nat} (hi : i < L.length) (a : Int) (eo : Bool) (ea eb et : Int) (oo : Bool) (oa ob ot f : Int) :
    ((((((((((hds L).set (i * 10) (.int .i64 a)).set (i * 10 + 1) (.bool eo)).set (i * 10 + 2) (.int .i64 ea)).set (i * 10 + 3) (.int .i64 eb)).set (i * 10 + 4) (.int .i64 et)).set (i * 10 + 5) (.bool oo)).set (i * 10 + 6) (.int .i64 oa)).set (i * 10 + 7) (.int .i64 ob)).set (i * 10 + 8) (.int .i64 ot)).set (i * 10 + 9) (.int .i64 f)
      = hds (L.set i (a, (eo, ea, eb), et, (oo, oa, ob), ot, f)) := by
  obtain ⟨e, hl, es⟩ := hds_parts hi
  have h0 := fun (B : List Value) (v : Value) => set_app (hds (L.take i)) B (i * 10) 0 v hl
  simp only [Nat.add_zero] at h0
  rw [e, h0, set_app _ _ _ _ _ hl, set_app _ _ _ _ _ hl, set_app _ _ _ _ _ hl, set_app _ _ _ _ _ hl, set_app _ _ _ _ _ hl, set_app _ _ _ _ _ hl, set_app _ _ _ _ _ hl, set_app _ _ _ _ _ hl, set_app _ _ _ _ _ hl, es]
  rfl
theorem set_f {L : List Hd} {i : Nat} (hi : i < L.length) {a : Int} {eo : Bool} {ea eb et : Int} {oo : Bool} {oa ob ot f : Int} (e9 : hx L i = (a, (eo, ea, eb), et, (oo, oa, ob), ot, f)) (f2 : Int) :
    (hds L).set (i * 10 + 9) (.int .i64 f2) = hds (L.set i (a, (eo, ea, eb), et, (oo, oa, ob), ot, f2)) := by
  obtain ⟨e, hl, es⟩ := hds_parts hi
  rw [e, set_app _ _ _ _ _ hl, es, e9]
  rfl
theorem set_odd {L : List Hd} {i : Nat} (hi : i < L.length) {a : Int} {eo : Bool} {ea eb et : Int} {oo : Bool} {oa ob ot f : Int} (e9 : hx L i = (a, (eo, ea, eb), et, (oo, oa, ob), ot, f)) (o2 : Bool) (a2 b2 t2 : Int) :
    ((((hds L).set (i * 10 + 5) (.bool o2)).set (i * 10 + 6) (.int .i64 a2)).set (i * 10 + 7) (.int .i64 b2)).set (i * 10 + 8) (.int .i64 t2) = hds (L.set i (a, (eo, ea, eb), et, (o2, a2, b2), t2, f)) := by
  obtain ⟨e, hl, es⟩ := hds_parts hi
  rw [e, set_app _ _ _ _ _ hl, set_app _ _ _ _ _ hl, set_app _ _ _ _ _ hl, set_app _ _ _ _ _ hl, es, e9]
  rfl
theorem set_even {L : List Hd} {i : Nat} (hi : i < L.length) {a : Int} {eo : Bool} {ea eb et : Int} {oo : Bool} {oa ob ot f : Int} (e9 : hx L i = (a, (eo, ea, eb), et, (oo, oa, ob), ot, f)) (o2 : Bool) (a2 b2 t2 : Int) :
    ((((hds L).set (i * 10 + 1) (.bool o2)).set (i * 10 + 2) (.int .i64 a2)).set (i * 10 + 3) (.int .i64 b2)).set (i * 10 + 4) (.int .i64 t2) = hds (L.set i (a, (o2, a2, b2), t2, (oo, oa, ob), ot, f)) := by
  obtain ⟨e, hl, es⟩ := hds_parts hi
  rw [e, set_app _ _ _ _ _ hl, set_app _ _ _ _ _ hl, set_app _ _ _ _ _ hl, set_app _ _ _ _ _ hl, es, e9]
  rfl
end Go.Proofs.Ytbeojfhakmbacaa
namespace Go.Proofs.Ytbeojfhakmbacaa
open Go.RowKit
theorem unpack_c (d : Int) (w : World) : Calls Try.prog 93 #[.int .i64 d] w (Gives w (.tuple #[.agg #[.bool (upO d), .int .i64 (upA d), .int .i64 (upB d)], .bool (upK d)])) := by
  rcases h1 : wi d 0 32767 with _ | _
  focus
    go_enter Try.func93, Try.ntmps93
    go_wp2_with (first | (go_at_call 63; refine (within_c _ _ _ _).mono ?_; rintro e w1 ⟨rfl, rfl⟩))
    refine bodyPost_ret (v := .tuple #[.agg #[.bool false, .int .i64 0, .int .i64 0], .bool false]) (by simp [results, Try.results93, go_sem, *]) rfl ⟨ret_eq (by simp [upO, upA, upB, upK, h1]), by go_grown⟩
  obtain ⟨hd0, hd1⟩ := wi_iff.1 h1
  have e1 : d.tmod 16384 = d % 16384 := Int.tmod_eq_emod_of_nonneg hd0
  rcases h2 : vR (decide (16384 ≤ d)) (d % 16384 / 128) (d % 128) with _ | _
  focus
    go_enter Try.func93, Try.ntmps93
    go_wp2_with (first | (go_at_call 63; refine (within_c _ _ _ _).mono ?_; rintro e w1 ⟨rfl, rfl⟩) | (go_at_call 101; refine (validRep_c _ _ _ _).mono ?_; rintro e w1 ⟨rfl, hb⟩; have hT : w1.cell? ⟨w.heap.size, 0, none⟩ = some (.bool false) ∧ w1.cell? ⟨w.heap.size, 1, none⟩ = some (.int .i64 0) ∧ w1.cell? ⟨w.heap.size, 2, none⟩ = some (.int .i64 0) ∧ w1.cell? ⟨w.heap.size + 1, 0, none⟩ = some (.bool (decide (16384 ≤ d))) ∧ w1.cell? ⟨w.heap.size + 1, 1, none⟩ = some (.int .i64 (d % 16384 / 128)) ∧ w1.cell? ⟨w.heap.size + 1, 2, none⟩ = some (.int .i64 (d % 128)) ∧ (w.heap.size < w1.heap.size ∧ ∀ i, w1.frozen? ⟨w.heap.size, i, none⟩ = false) ∧ Below w.heap.size w w1 := keep6_1 (by first | assumption | (exact hS) | (refine ⟨?_, ?_, ?_, ?_, ?_, ?_, ?_, ?_⟩ <;> (first | (simp [go_sem]; done) | (simp [go_sem, *]; done) | (go_grown; done)))) hb; (try clear hS); have hS := hT; clear hT; have hB := hS.2.2.2.2.2.2.2; have hzw := hB.size; have hz1 : w.heap.size < w1.heap.size := World.block_lt_of_cell? w1 _ (hS.1); have hz2 : w.heap.size + 1 < w1.heap.size := World.block_lt_of_cell? w1 _ (hS.2.2.2.1); clear hb))
    refine bodyPost_ret (v := .tuple #[.agg #[.bool false, .int .i64 0, .int .i64 0], .bool false]) (by simp [results, Try.results93, go_sem, *]) rfl ⟨ret_eq (by simp [upO, upA, upB, upK, h1, h2]), by go_grown⟩
  go_enter Try.func93, Try.ntmps93
  go_wp2_with (first | (go_at_call 63; refine (within_c _ _ _ _).mono ?_; rintro e w1 ⟨rfl, rfl⟩) | (go_at_call 101; refine (validRep_c _ _ _ _).mono ?_; rintro e w1 ⟨rfl, hb⟩; have hT : w1.cell? ⟨w.heap.size, 0, none⟩ = some (.bool false) ∧ w1.cell? ⟨w.heap.size, 1, none⟩ = some (.int .i64 0) ∧ w1.cell? ⟨w.heap.size, 2, none⟩ = some (.int .i64 0) ∧ w1.cell? ⟨w.heap.size + 1, 0, none⟩ = some (.bool (decide (16384 ≤ d))) ∧ w1.cell? ⟨w.heap.size + 1, 1, none⟩ = some (.int .i64 (d % 16384 / 128)) ∧ w1.cell? ⟨w.heap.size + 1, 2, none⟩ = some (.int .i64 (d % 128)) ∧ (w.heap.size < w1.heap.size ∧ ∀ i, w1.frozen? ⟨w.heap.size, i, none⟩ = false) ∧ Below w.heap.size w w1 := keep6_1 (by first | assumption | (exact hS) | (refine ⟨?_, ?_, ?_, ?_, ?_, ?_, ?_, ?_⟩ <;> (first | (simp [go_sem]; done) | (simp [go_sem, *]; done) | (go_grown; done)))) hb; (try clear hS); have hS := hT; clear hT; have hB := hS.2.2.2.2.2.2.2; have hzw := hB.size; have hz1 : w.heap.size < w1.heap.size := World.block_lt_of_cell? w1 _ (hS.1); have hz2 : w.heap.size + 1 < w1.heap.size := World.block_lt_of_cell? w1 _ (hS.2.2.2.1); clear hb))
  refine bodyPost_ret (v := .tuple #[.agg #[.bool (decide (16384 ≤ d)), .int .i64 (d % 16384 / 128), .int .i64 (d % 128)], .bool true]) (by simp [results, Try.results93, go_sem, *]) rfl ⟨ret_eq (by simp [upO, upA, upB, upK, h1, h2]), by go_grown⟩
theorem l7Unpack_c (d : Int) (w : World) : Calls Try.prog 100 #[.int .i64 d] w (Gives w (.tuple #[.agg #[.bool (upO d), .int .i64 (upA d), .int .i64 (upB d)], .bool (upK d)])) := by
  rcases h1 : wi d 0 32767 with _ | _
  focus
    go_enter Try.func100, Try.ntmps100
    go_wp2_with (first | (go_at_call 98; refine (l1In_c _ _ _ _).mono ?_; rintro e w1 ⟨rfl, rfl⟩))
    refine bodyPost_ret (v := .tuple #[.agg #[.bool false, .int .i64 0, .int .i64 0], .bool false]) (by simp [results, Try.results100, go_sem, *]) rfl ⟨ret_eq (by simp [upO, upA, upB, upK, h1]), by go_grown⟩
  obtain ⟨hd0, hd1⟩ := wi_iff.1 h1
  have e1 : d.tmod 16384 = d % 16384 := Int.tmod_eq_emod_of_nonneg hd0
  rcases h2 : vR (decide (16384 ≤ d)) (d % 16384 / 128) (d % 128) with _ | _
  focus
    go_enter Try.func100, Try.ntmps100
    go_wp2_with (first | (go_at_call 98; refine (l1In_c _ _ _ _).mono ?_; rintro e w1 ⟨rfl, rfl⟩) | (go_at_call 120; refine (l7Report_c _ _ _ _).mono ?_; rintro e w1 ⟨rfl, hb⟩; have hT : w1.cell? ⟨w.heap.size, 0, none⟩ = some (.bool false) ∧ w1.cell? ⟨w.heap.size, 1, none⟩ = some (.int .i64 0) ∧ w1.cell? ⟨w.heap.size, 2, none⟩ = some (.int .i64 0) ∧ w1.cell? ⟨w.heap.size + 1, 0, none⟩ = some (.bool (decide (16384 ≤ d))) ∧ w1.cell? ⟨w.heap.size + 1, 1, none⟩ = some (.int .i64 (d % 16384 / 128)) ∧ w1.cell? ⟨w.heap.size + 1, 2, none⟩ = some (.int .i64 (d % 128)) ∧ (w.heap.size < w1.heap.size ∧ ∀ i, w1.frozen? ⟨w.heap.size, i, none⟩ = false) ∧ Below w.heap.size w w1 := keep6_1 (by first | assumption | (exact hS) | (refine ⟨?_, ?_, ?_, ?_, ?_, ?_, ?_, ?_⟩ <;> (first | (simp [go_sem]; done) | (simp [go_sem, *]; done) | (go_grown; done)))) hb; (try clear hS); have hS := hT; clear hT; have hB := hS.2.2.2.2.2.2.2; have hzw := hB.size; have hz1 : w.heap.size < w1.heap.size := World.block_lt_of_cell? w1 _ (hS.1); have hz2 : w.heap.size + 1 < w1.heap.size := World.block_lt_of_cell? w1 _ (hS.2.2.2.1); clear hb))
    refine bodyPost_ret (v := .tuple #[.agg #[.bool false, .int .i64 0, .int .i64 0], .bool false]) (by simp [results, Try.results100, go_sem, *]) rfl ⟨ret_eq (by simp [upO, upA, upB, upK, h1, h2]), by go_grown⟩
  go_enter Try.func100, Try.ntmps100
  go_wp2_with (first | (go_at_call 98; refine (l1In_c _ _ _ _).mono ?_; rintro e w1 ⟨rfl, rfl⟩) | (go_at_call 120; refine (l7Report_c _ _ _ _).mono ?_; rintro e w1 ⟨rfl, hb⟩; have hT : w1.cell? ⟨w.heap.size, 0, none⟩ = some (.bool false) ∧ w1.cell? ⟨w.heap.size, 1, none⟩ = some (.int .i64 0) ∧ w1.cell? ⟨w.heap.size, 2, none⟩ = some (.int .i64 0) ∧ w1.cell? ⟨w.heap.size + 1, 0, none⟩ = some (.bool (decide (16384 ≤ d))) ∧ w1.cell? ⟨w.heap.size + 1, 1, none⟩ = some (.int .i64 (d % 16384 / 128)) ∧ w1.cell? ⟨w.heap.size + 1, 2, none⟩ = some (.int .i64 (d % 128)) ∧ (w.heap.size < w1.heap.size ∧ ∀ i, w1.frozen? ⟨w.heap.size, i, none⟩ = false) ∧ Below w.heap.size w w1 := keep6_1 (by first | assumption | (exact hS) | (refine ⟨?_, ?_, ?_, ?_, ?_, ?_, ?_, ?_⟩ <;> (first | (simp [go_sem]; done) | (simp [go_sem, *]; done) | (go_grown; done)))) hb; (try clear hS); have hS := hT; clear hT; have hB := hS.2.2.2.2.2.2.2; have hzw := hB.size; have hz1 : w.heap.size < w1.heap.size := World.block_lt_of_cell? w1 _ (hS.1); have hz2 : w.heap.size + 1 < w1.heap.size := World.block_lt_of_cell? w1 _ (hS.2.2.2.1); clear hb))
  refine bodyPost_ret (v := .tuple #[.agg #[.bool (decide (16384 ≤ d)), .int .i64 (d % 16384 / 128), .int .i64 (d % 128)], .bool true]) (by simp [results, Try.results100, go_sem, *]) rfl ⟨ret_eq (by simp [upO, upA, upB, upK, h1, h2]), by go_grown⟩
end Go.Proofs.Ytbeojfhakmbacaa
namespace Go.Proofs.Ytbeojfhakmbacaa
open Go.RowKit
theorem infoHd : (Try.prog.info? 42).map (fun i => (i.zero, i.size, i.bytes)) = some (some (hdV nHd), 10, 80) := by kernel_rfl
end Go.Proofs.Ytbeojfhakmbacaa
namespace Go.Proofs.Ytbeojfhakmbacaa
open Go.RowKit
theorem own_set {w : World} {B e size n : Nat} {v : Value} {xs : List Value} (h : w.ownsRow B e size v n xs) {p : Addr} (hp : p.block < B) (u : Value) : (w.setCell p u).ownsRow B e size v n xs := by
  obtain ⟨h1, h2⟩ := h
  refine ⟨h1, ?_⟩
  rcases h2 with h2 | ⟨g, cap, cur, hv, hb, hh, h3⟩
  · exact Or.inl h2
  · exact Or.inr ⟨g, cap, cur, hv, hb, (Below.heap_setCell w p u g (by omega)).trans hh, h3⟩
end Go.Proofs.Ytbeojfhakmbacaa
namespace Go.Proofs.Ytbeojfhakmbacaa
open Go Go.RowKit
theorem wpList_append_any {P : Program} {w : World} {ops : Array Oper} {rest : List Oper} {o : Oper} {a : Act} {Q : Exit → Act → World → Prop} (hgd : o.guard = none) (s x : Operand) (t : TypeId)
    (ho : o.op = .call { callee := .builtin .append, args := #[s, x], argTypes := #[t, t] })
    (base : Nat) (e : TypeId) (i : TypeInfo) (z : Value) (size bytes : Nat) (ht : P.underlying t = some (.slice e)) (hi : P.info? e = some i) (hz : i.zero = some z)
    (hsize : i.size = size) (hby : i.bytes = bytes) (hzs : z.cells.size = size) (hsz : 0 < size)
    (v : Value) (n : Nat) (xs : List Value) (hs : a.eval s = v) (hown : w.ownsRow base e size v n xs)
    (B : Nat) (A : Option Addr) (m c : Nat) (news : List Value) (hx : a.eval x = .slice A m c) (hr : Reads w B size A m news) (hm0 : A = none → m = 0) (h1 : ∀ u ∈ news, u.oneCell' = true)
    (h63 : n + m ≤ maxLen) (hbytes : (n + m) * bytes ≤ 140737488355328) (hbase : base ≤ w.heap.size)
    (h : ∀ A' c' w', w'.ownsRow base e size (.slice A' (n + m) c') (n + m) (xs ++ news) → w.grownBy w' v.ownBlock → wpList P ops Q rest (a.put o.dst (.slice A' (n + m) c')) w') :
    wpList P ops Q (o :: rest) a w := by
  obtain ⟨v', w', hrun, h2, h3⟩ := run_append_any (P := P) w base t o.type e i z size bytes ht hi hz hsize hby hzs hsz v n xs hown B A m c news hr hm0 h1 h63 hbytes hbase
  have hv : ∃ A' c', v' = .slice A' (n + m) c' := by
    rcases h2.2 with ⟨rfl, h0⟩ | ⟨g, cap, _, rfl, _⟩
    · exact ⟨none, 0, by rw [h0]⟩
    · exact ⟨_, _, rfl⟩
  obtain ⟨A', c', rfl⟩ := hv
  refine wpList_plain hgd fun _ hK => ?_
  unfold Oper.wp
  have hr2 : (execOp a.eval o).run P w = .ok (.value (.slice A' (n + m) c')) w' := by
    unfold execOp
    simp only [ho, resolve, invoke, builtin, Sem.run_bind, Sem.run_pure, Result.andThen_ok, List.map_toArray, List.map_cons, List.map_nil, hs, hx, hrun]
  rw [hr2]
  exact hK _ _ (h _ _ _ h2 h3)
end Go.Proofs.Ytbeojfhakmbacaa
namespace Go.Proofs.Ytbeojfhakmbacaa
open Go.RowKit
theorem own_fre {w w' : World} {base : Nat} {e : TypeId} {size : Nat} {v : Value} {n : Nat} {xs : List Value} (h : w.ownsRow base e size v n xs) (hg : w.grownBy w' v.ownBlock) {b : Nat} (hf : b < w.heap.size ∧ ∀ i, w.frozen? ⟨b, i, none⟩ = false) (hb : b < base) : b < w'.heap.size ∧ ∀ i, w'.frozen? ⟨b, i, none⟩ = false :=
  ⟨Nat.lt_of_lt_of_le hf.1 hg.size, fun i => (hg.frozen_far ⟨b, i, none⟩ hf.1 (fun e => by have h9 := (h.lt _ e.symm).1; have h8 : base ≤ b := h9; omega)).trans (hf.2 i)⟩
theorem news_ten {w : World} {a : Addr} {x0 x1 x2 x3 x4 x5 x6 x7 x8 x9 : Value} (h0 : w.cell? a = some x0) (h1 : w.cell? ⟨a.block, a.off + 1, none⟩ = some x1) (h2 : w.cell? ⟨a.block, a.off + 2, none⟩ = some x2) (h3 : w.cell? ⟨a.block, a.off + 3, none⟩ = some x3) (h4 : w.cell? ⟨a.block, a.off + 4, none⟩ = some x4) (h5 : w.cell? ⟨a.block, a.off + 5, none⟩ = some x5) (h6 : w.cell? ⟨a.block, a.off + 6, none⟩ = some x6) (h7 : w.cell? ⟨a.block, a.off + 7, none⟩ = some x7) (h8 : w.cell? ⟨a.block, a.off + 8, none⟩ = some x8) (h9 : w.cell? ⟨a.block, a.off + 9, none⟩ = some x9) : ∀ j u, [x0, x1, x2, x3, x4, x5, x6, x7, x8, x9][j]? = some u → w.cell? (a.add j) = some u := by
  intro j u hj
  match j, hj with
  | 0, hj => simp at hj; subst hj; simpa [Addr.add] using h0
  | 1, hj => simp at hj; subst hj; simpa [Addr.add] using h1
  | 2, hj => simp at hj; subst hj; simpa [Addr.add] using h2
  | 3, hj => simp at hj; subst hj; simpa [Addr.add] using h3
  | 4, hj => simp at hj; subst hj; simpa [Addr.add] using h4
  | 5, hj => simp at hj; subst hj; simpa [Addr.add] using h5
  | 6, hj => simp at hj; subst hj; simpa [Addr.add] using h6
  | 7, hj => simp at hj; subst hj; simpa [Addr.add] using h7
  | 8, hj => simp at hj; subst hj; simpa [Addr.add] using h8
  | 9, hj => simp at hj; subst hj; simpa [Addr.add] using h9
  | j + 10, hj => simp at hj
theorem one_ten {x0 x1 x2 x3 x4 x5 x6 x7 x8 x9 : Value} (h0 : x0.oneCell' = true) (h1 : x1.oneCell' = true) (h2 : x2.oneCell' = true) (h3 : x3.oneCell' = true) (h4 : x4.oneCell' = true) (h5 : x5.oneCell' = true) (h6 : x6.oneCell' = true) (h7 : x7.oneCell' = true) (h8 : x8.oneCell' = true) (h9 : x9.oneCell' = true) : ∀ u ∈ [x0, x1, x2, x3, x4, x5, x6, x7, x8, x9], u.oneCell' = true := by
  intro u hu
  simp only [List.mem_cons, List.not_mem_nil, or_false] at hu
  rcases hu with rfl | rfl | rfl | rfl | rfl | rfl | rfl | rfl | rfl | rfl <;> assumption
end Go.Proofs.Ytbeojfhakmbacaa
namespace Go.Proofs.Ytbeojfhakmbacaa
open Go.RowKit
set_option maxHeartbeats 4000000 in
theorem heardAt_c (m : Int) (A : Option Addr) (c : Nat) (l : List Hd) (x : Int) (w : World) (h1 : Hid (Reads w w.heap.size 10 A l.length (hds l))) (b1 : l.length ≤ 4000000)  : Calls Try.prog 68 #[.agg #[.int .i64 m, .slice A l.length c], .int .i64 x] w (Gives w (.int .i64 (fndV l x))) := by
  go_enter Try.func68, Try.ntmps68
  go_wp2
  go_loopw [10] (fun iv wr => ∃ i : Nat, i ≤ l.length ∧ iv = .int .i64 i ∧ Hid (noL l x i) ∧ (wr.cell? ⟨w.heap.size, 0, none⟩ = some (.int .i64 m) ∧ wr.cell? ⟨w.heap.size, 1, none⟩ = some (.slice A l.length c) ∧ Below w.heap.size w wr)) (fun iv _ => l.length - (intOf iv).toNat)
  case atStart => exact ⟨0, by omega, rfl, hide noL_zero, by first | (with_reducible assumption) | (exact hS) | (exact ⟨hS.1, hS.2.1, (by go_grown)⟩) | (exact ⟨(by first | (with_reducible assumption) | (simp [go_sem]; done) | ((simp only [go_sem]); (with_reducible assumption)) | ((refine keep_cell ?_ (by with_reducible assumption)); go_grown; done) | (simp [go_sem, *]; done)), (by first | (with_reducible assumption) | (simp [go_sem]; done) | ((simp only [go_sem]); (with_reducible assumption)) | ((refine keep_cell ?_ (by with_reducible assumption)); go_grown; done) | (simp [go_sem, *]; done)), (by go_grown)⟩)⟩
  case round =>
    obtain ⟨i, hi, rfl, HN, hS⟩ := hrel
    have hS2 := hS
    obtain ⟨r0, r1, hB⟩ := hS2
    have hzw : w.heap.size ≤ wr.heap.size := hB.size
    have hz1 : w.heap.size < wr.heap.size := World.block_lt_of_cell? wr _ (hS.1)
    by_cases hlt : i < l.length
    rotate_left
    · obtain rfl : i = l.length := by omega
      have HF := hide (fnd_none HN.out)
      go_wp2
      go_returns
      exact ⟨ret_eq (by rw [HF.out]; simp), by go_grown⟩
    obtain ⟨⟨a, ⟨eo, ea, eb⟩, et, ⟨oo, oa, ob⟩, ot, f⟩, he⟩ : ∃ q, hx l i = q := ⟨_, rfl⟩
    obtain ⟨a1, rfl, ekb, e0, e1, e2, e3, e4, e5, e6, e7, e8, e9⟩ := (h1.out.below hB).hd (k := i) (by omega) he
    have HE := hide he
    clear he
    by_cases hc : a = x
    · have HF := hide (fnd_some hlt HN.out (by rw [HE.out]; exact hc))
      have hcb : (a == x) = true := beq_iff_eq.2 hc
      clear hc
      go_wp2
      go_returns
      exact ⟨ret_eq (by rw [HF.out]; simp), by go_grown⟩
    have HN2 := hide (noL_succ HN.out (by rw [HE.out]; exact hc))
    have hcb : (a == x) = false := beq_eq_false_iff_ne.2 hc
    clear hc
    go_wp2
    go_roundw
    case rel => exact ⟨i + 1, by omega, by go_num, HN2, by first | (with_reducible assumption) | (exact hS) | (exact ⟨hS.1, hS.2.1, (by go_grown)⟩) | (exact ⟨(by first | (with_reducible assumption) | (simp [go_sem]; done) | ((simp only [go_sem]); (with_reducible assumption)) | ((refine keep_cell ?_ (by with_reducible assumption)); go_grown; done) | (simp [go_sem, *]; done)), (by first | (with_reducible assumption) | (simp [go_sem]; done) | ((simp only [go_sem]); (with_reducible assumption)) | ((refine keep_cell ?_ (by with_reducible assumption)); go_grown; done) | (simp [go_sem, *]; done)), (by go_grown)⟩)⟩
    case measure => simp [intOf]; omega
set_option maxHeartbeats 4000000 in
theorem l9Find_c (m : Int) (A : Option Addr) (c : Nat) (l : List Hd) (x : Int) (w : World) (h1 : Hid (Reads w w.heap.size 10 A l.length (hds l))) (b1 : l.length ≤ 4000000)  : Calls Try.prog 75 #[.agg #[.int .i64 m, .slice A l.length c], .int .i64 x] w (Gives w (.int .i64 (fndV l x))) := by
  go_enter Try.func75, Try.ntmps75
  go_wp2
  go_loopw [5] (fun iv wr => ∃ i : Nat, i ≤ l.length ∧ iv = .int .i64 i ∧ Hid (noL l x i) ∧ (wr.cell? ⟨w.heap.size, 0, none⟩ = some (.int .i64 m) ∧ wr.cell? ⟨w.heap.size, 1, none⟩ = some (.slice A l.length c) ∧ Below w.heap.size w wr)) (fun iv _ => l.length - (intOf iv).toNat)
  case atStart => exact ⟨0, by omega, rfl, hide noL_zero, by first | (with_reducible assumption) | (exact hS) | (exact ⟨hS.1, hS.2.1, (by go_grown)⟩) | (exact ⟨(by first | (with_reducible assumption) | (simp [go_sem]; done) | ((simp only [go_sem]); (with_reducible assumption)) | ((refine keep_cell ?_ (by with_reducible assumption)); go_grown; done) | (simp [go_sem, *]; done)), (by first | (with_reducible assumption) | (simp [go_sem]; done) | ((simp only [go_sem]); (with_reducible assumption)) | ((refine keep_cell ?_ (by with_reducible assumption)); go_grown; done) | (simp [go_sem, *]; done)), (by go_grown)⟩)⟩
  case round =>
    obtain ⟨i, hi, rfl, HN, hS⟩ := hrel
    have hS2 := hS
    obtain ⟨r0, r1, hB⟩ := hS2
    have hzw : w.heap.size ≤ wr.heap.size := hB.size
    have hz1 : w.heap.size < wr.heap.size := World.block_lt_of_cell? wr _ (hS.1)
    by_cases hlt : i < l.length
    rotate_left
    · obtain rfl : i = l.length := by omega
      have HF := hide (fnd_none HN.out)
      go_wp2
      go_returns
      exact ⟨ret_eq (by rw [HF.out]; simp), by go_grown⟩
    obtain ⟨⟨a, ⟨eo, ea, eb⟩, et, ⟨oo, oa, ob⟩, ot, f⟩, he⟩ : ∃ q, hx l i = q := ⟨_, rfl⟩
    obtain ⟨a1, rfl, ekb, e0, e1, e2, e3, e4, e5, e6, e7, e8, e9⟩ := (h1.out.below hB).hd (k := i) (by omega) he
    have HE := hide he
    clear he
    by_cases hc : a = x
    · have HF := hide (fnd_some hlt HN.out (by rw [HE.out]; exact hc))
      have hcb : (a == x) = true := beq_iff_eq.2 hc
      clear hc
      go_wp2
      go_returns
      exact ⟨ret_eq (by rw [HF.out]; simp), by go_grown⟩
    have HN2 := hide (noL_succ HN.out (by rw [HE.out]; exact hc))
    have hcb : (a == x) = false := beq_eq_false_iff_ne.2 hc
    clear hc
    go_wp2
    go_roundw
    case rel => exact ⟨i + 1, by omega, by go_num, HN2, by first | (with_reducible assumption) | (exact hS) | (exact ⟨hS.1, hS.2.1, (by go_grown)⟩) | (exact ⟨(by first | (with_reducible assumption) | (simp [go_sem]; done) | ((simp only [go_sem]); (with_reducible assumption)) | ((refine keep_cell ?_ (by with_reducible assumption)); go_grown; done) | (simp [go_sem, *]; done)), (by first | (with_reducible assumption) | (simp [go_sem]; done) | ((simp only [go_sem]); (with_reducible assumption)) | ((refine keep_cell ?_ (by with_reducible assumption)); go_grown; done) | (simp [go_sem, *]; done)), (by go_grown)⟩)⟩
    case measure => simp [intOf]; omega
end Go.Proofs.Ytbeojfhakmbacaa
namespace Go.Proofs.Ytbeojfhakmbacaa
open Go.RowKit
theorem sc {w : World} {g i b j : Nat} {u : Value} (v : Value) (h : b ≠ g) (q : w.cell? ⟨b, j, none⟩ = some u) : (w.setCell ⟨g, i, none⟩ v).cell? ⟨b, j, none⟩ = some u := by
  rw [World.cell?_setCell_other _ _ _ _ (by intro e; injection e with e1; exact h e1.symm)]; exact q
theorem sf {w : World} {p : Addr} {b : Nat} (v : Value) (q : b < w.heap.size ∧ ∀ i, w.frozen? ⟨b, i, none⟩ = false) : b < (w.setCell p v).heap.size ∧ ∀ i, (w.setCell p v).frozen? ⟨b, i, none⟩ = false := ⟨by simpa using q.1, fun i => by simpa using q.2 i⟩
theorem hds_one (l : List Hd) : ∀ u ∈ hds l, u.oneCell' = true := by
  intro u hu
  unfold hds at hu
  obtain ⟨h, _, hm⟩ := List.mem_flatMap.1 hu
  simp only [hdc, List.mem_cons, List.not_mem_nil, or_false] at hm
  rcases hm with rfl | rfl | rfl | rfl | rfl | rfl | rfl | rfl | rfl | rfl <;> rfl
theorem reads_nn {w : World} {B sz n : Nat} {A : Option Addr} {xs : List Value} (h : Reads w B sz A n xs) (hA : A = none) : n = 0 := Decidable.byContradiction fun hn => by
  obtain ⟨ad, e, _⟩ := h.2 (by omega)
  rw [hA] at e
  cases e
theorem row_cell {w : World} {base g n c k : Nat} {L : List Hd} (h : w.ownsRow base 42 10 (.slice (some ⟨g, 0, none⟩) n c) n (hds L)) (hn : n = L.length) (hk : k < L.length) {j : Nat} (hj : j < 10) {v : Value} (hv : (hdc (hx L k))[j]? = some v) : w.cell? ⟨g, k * 10 + j, none⟩ = some v := by
  rw [h.cellAt (k * 10 + j) (by omega), hds_at L k j hk hj]; exact hv
theorem hx_set {L : List Hd} {k : Nat} (h : k < L.length) (x : Hd) : hx (L.set k x) k = x := by
  unfold hx; rw [List.getD_eq_getElem?_getD, List.getElem?_set]; simp [h]
theorem ne_cell {w w' : World} {v : Value} (hg : w.grownBy w' v.ownBlock) {a : Addr} {u : Value} (hc : w.cell? a = some u) (ha : v.ownBlock ≠ some a.block) : w'.cell? a = some u := hg.cell hc fun e => ha e.symm
theorem ne_fre {w w' : World} {v : Value} (hg : w.grownBy w' v.ownBlock) {b : Nat} (hf : b < w.heap.size ∧ ∀ i, w.frozen? ⟨b, i, none⟩ = false) (hb : v.ownBlock ≠ some b) : b < w'.heap.size ∧ ∀ i, w'.frozen? ⟨b, i, none⟩ = false :=
  ⟨Nat.lt_of_lt_of_le hf.1 hg.size, fun i => (hg.frozen_far ⟨b, i, none⟩ hf.1 (fun e => hb e.symm)).trans (hf.2 i)⟩
theorem row_ten {w : World} {base g n c k : Nat} {L : List Hd} (h : w.ownsRow base 42 10 (.slice (some ⟨g, 0, none⟩) n c) n (hds L)) (hk : k < L.length) (a : Int) (eo : Bool) (ea eb et : Int) (oo : Bool) (oa ob ot f : Int) :
    ((((((((((w.setCell ⟨g, k * 10, none⟩ (.int .i64 a)).setCell ⟨g, k * 10 + 1, none⟩ (.bool eo)).setCell ⟨g, k * 10 + 2, none⟩ (.int .i64 ea)).setCell ⟨g, k * 10 + 3, none⟩ (.int .i64 eb)).setCell ⟨g, k * 10 + 4, none⟩ (.int .i64 et)).setCell ⟨g, k * 10 + 5, none⟩ (.bool oo)).setCell ⟨g, k * 10 + 6, none⟩ (.int .i64 oa)).setCell ⟨g, k * 10 + 7, none⟩ (.int .i64 ob)).setCell ⟨g, k * 10 + 8, none⟩ (.int .i64 ot)).setCell ⟨g, k * 10 + 9, none⟩ (.int .i64 f)).ownsRow base 42 10 (.slice (some ⟨g, 0, none⟩) n c) n (hds (L.set k (a, (eo, ea, eb), et, (oo, oa, ob), ot, f))) := by
  rw [← set_ten hk]
  exact (((((((((((h.stored _ _).1).stored _ _).1.stored _ _).1.stored _ _).1.stored _ _).1.stored _ _).1.stored _ _).1.stored _ _).1.stored _ _).1.stored _ _).1
def tenW (w : World) (g k : Nat) (h : Hd) : World :=
  (((((((((w.setCell ⟨g, k * 10, none⟩ (.int .i64 h.1)).setCell ⟨g, k * 10 + 1, none⟩ (.bool h.2.1.1)).setCell ⟨g, k * 10 + 2, none⟩ (.int .i64 h.2.1.2.1)).setCell ⟨g, k * 10 + 3, none⟩ (.int .i64 h.2.1.2.2)).setCell ⟨g, k * 10 + 4, none⟩ (.int .i64 h.2.2.1)).setCell ⟨g, k * 10 + 5, none⟩ (.bool h.2.2.2.1.1)).setCell ⟨g, k * 10 + 6, none⟩ (.int .i64 h.2.2.2.1.2.1)).setCell ⟨g, k * 10 + 7, none⟩ (.int .i64 h.2.2.2.1.2.2)).setCell ⟨g, k * 10 + 8, none⟩ (.int .i64 h.2.2.2.2.1)).setCell ⟨g, k * 10 + 9, none⟩ (.int .i64 h.2.2.2.2.2)
theorem ten_row {w : World} {base g n c k : Nat} {L : List Hd} (h : w.ownsRow base 42 10 (.slice (some ⟨g, 0, none⟩) n c) n (hds L)) (hk : k < L.length) (x : Hd) : (tenW w g k x).ownsRow base 42 10 (.slice (some ⟨g, 0, none⟩) n c) n (hds (L.set k x)) :=
  row_ten h hk x.1 x.2.1.1 x.2.1.2.1 x.2.1.2.2 x.2.2.1 x.2.2.2.1.1 x.2.2.2.1.2.1 x.2.2.2.1.2.2 x.2.2.2.2.1 x.2.2.2.2.2
theorem ten_cell {w : World} {g b j : Nat} {u : Value} (k : Nat) (x : Hd) (h : b ≠ g) (q : w.cell? ⟨b, j, none⟩ = some u) : (tenW w g k x).cell? ⟨b, j, none⟩ = some u :=
  sc _ h (sc _ h (sc _ h (sc _ h (sc _ h (sc _ h (sc _ h (sc _ h (sc _ h (sc _ h q)))))))))
theorem ten_fre {w : World} {b : Nat} (g k : Nat) (x : Hd) (q : b < w.heap.size ∧ ∀ i, w.frozen? ⟨b, i, none⟩ = false) : b < (tenW w g k x).heap.size ∧ ∀ i, (tenW w g k x).frozen? ⟨b, i, none⟩ = false :=
  sf _ (sf _ (sf _ (sf _ (sf _ (sf _ (sf _ (sf _ (sf _ (sf _ q)))))))))
theorem ten_below {w a : World} {B g : Nat} (k : Nat) (x : Hd) (h : Below B a w) (hg : B ≤ g) : Below B a (tenW w g k x) :=
  (((((((((h.setCell (p := ⟨g, _, none⟩) hg _).setCell (p := ⟨g, _, none⟩) hg _).setCell (p := ⟨g, _, none⟩) hg _).setCell (p := ⟨g, _, none⟩) hg _).setCell (p := ⟨g, _, none⟩) hg _).setCell (p := ⟨g, _, none⟩) hg _).setCell (p := ⟨g, _, none⟩) hg _).setCell (p := ⟨g, _, none⟩) hg _).setCell (p := ⟨g, _, none⟩) hg _).setCell (p := ⟨g, _, none⟩) hg _
theorem hx_set_ne {L : List Hd} {j i : Nat} (h : j ≠ i) (x : Hd) : hx (L.set j x) i = hx L i := by
  unfold hx; rw [List.getD_eq_getElem?_getD, List.getD_eq_getElem?_getD, List.getElem?_set_ne h]
theorem rcB_f {m : Int} {l : List Hd} {A : Int} (h : okR m l = true) : 0 ≤ (hx (rcB A l) (rcI A l)).2.2.2.2.2 ∧ (hx (rcB A l) (rcI A l)).2.2.2.2.2 ≤ 9999 := by
  unfold rcB
  by_cases hk : rcH A l
  · rw [if_pos hk]
    obtain ⟨⟨a, ⟨eo, ea, eb⟩, et, ⟨oo, oa, ob⟩, ot, f⟩, he⟩ : ∃ q, hx l (rcI A l) = q := ⟨_, rfl⟩
    obtain ⟨_, ⟨u0, u1⟩, _⟩ := okH_bd h hk.1 he
    rw [he]
    exact ⟨by show 0 ≤ f; omega, u1⟩
  · rw [if_neg hk, bub_at (rcI_le A l)]
    exact ⟨by show (0 : Int) ≤ 0; omega, by show (0 : Int) ≤ 9999; omega⟩
theorem ph3 {p : Nat} {W X0 X1 X2 : World} (h : W = (if p = 0 then X0 else if p = 1 then X1 else X2)) : W = X0 ∨ W = X1 ∨ W = X2 := by
  split at h
  · exact .inl h
  · split at h
    · exact .inr (.inl h)
    · exact .inr (.inr h)
end Go.Proofs.Ytbeojfhakmbacaa
namespace Go.Proofs.Ytbeojfhakmbacaa
open Go.RowKit
theorem totF_app (a b : List Hd) : totF (a ++ b) = totF a + totF b := by simp [totF]
theorem totF_cons (x : Hd) (b : List Hd) : totF (x :: b) = x.2.2.2.2.2 + totF b := by simp [totF]
theorem totF_set {L : List Hd} {i : Nat} (h : i < L.length) (x : Hd) : totF (L.set i x) = totF L - (hx L i).2.2.2.2.2 + x.2.2.2.2.2 := by
  have hl : i = (L.take i).length := by rw [List.length_take]; omega
  have e : L = L.take i ++ hx L i :: L.drop (i + 1) := by rw [← drop_hx h, List.take_append_drop]
  have e1 : totF L = totF (L.take i) + ((hx L i).2.2.2.2.2 + totF (L.drop (i + 1))) := by
    conv => lhs; rw [e]
    rw [totF_app, totF_cons]
  have e2 : L.set i x = L.take i ++ x :: L.drop (i + 1) := by
    conv => lhs; rw [e]
    rw [set_at _ _ _ _ hl]
  rw [e2, totF_app, totF_cons, e1]
  omega
theorem upH_f (t K D : Int) (h : Hd) : (upH t K D h).2.2.2.2.2 = h.2.2.2.2.2 + 1 := by
  unfold upH; split
  · split <;> rfl
  · rfl
theorem upH_a (t K D : Int) (h : Hd) : (upH t K D h).1 = h.1 := by
  unfold upH; split
  · split <;> rfl
  · rfl
theorem totF_bub (l : List Hd) (A : Int) (i : Nat) : totF (bubL l A i) = totF l := by
  unfold bubL
  rw [totF_app, totF_cons]
  have e : totF l = totF (l.take i) + totF (l.drop i) := by rw [← totF_app, List.take_append_drop]
  rw [e]
  show _ + ((0 : Int) + _) = _
  omega
theorem totF_rcB (A : Int) (l : List Hd) : totF (rcB A l) = totF l := by
  unfold rcB; split
  · rfl
  · exact totF_bub _ _ _
theorem rcB_a (A : Int) (l : List Hd) : (hx (rcB A l) (rcI A l)).1 = A := by
  unfold rcB; split
  · rename_i h; exact h.2
  · rw [bub_at (rcI_le A l)]; rfl
theorem totF_rcL (t A K D : Int) (l : List Hd) : totF (rcL t A K D l) = totF l + 1 := by
  unfold rcL
  rw [totF_set (rcB_at A l), upH_f, totF_rcB]
  omega
theorem rcL_a (t A K D : Int) (l : List Hd) : (hx (rcL t A K D l) (rcI A l)).1 = A := by
  unfold rcL
  rw [hx_set (rcB_at A l), upH_a, rcB_a]
theorem rcL_lt (t A K D : Int) (l : List Hd) : rcI A l < (rcL t A K D l).length := by unfold rcL; rw [List.length_set]; exact rcB_at A l
theorem rcL_fnd {t A K D : Int} {l : List Hd} (h : okR t (rcL t A K D l) = true) : fndV (rcL t A K D l) A = (rcI A l : Int) :=
  fnd_some (rcL_lt t A K D l) (fun j hj => by have := asc_at h hj (rcL_lt t A K D l); rw [rcL_a] at this; omega) (rcL_a t A K D l)
theorem fnd_at {m : Int} {l : List Hd} {x : Int} {j : Nat} (h : okR m l = true) (hj : j < l.length) (e : (hx l j).1 = x) : fndV l x = (j : Int) :=
  fnd_some hj (fun i hi => by have := asc_at h hi hj; rw [e] at this; omega) e
theorem fa_pp {m : Int} {l : List Hd} (x : Int) (h : okR m l = true) : x ∈ faL m l ↔ ppK m l x = true := by
  constructor
  · intro hx1
    obtain ⟨q, hq, hx2⟩ := List.mem_flatMap.1 hx1
    obtain ⟨j, hj, hq2⟩ := List.mem_iff_getElem.1 hq
    have e : hx l j = q := by unfold hx; rw [List.getD_eq_getElem?_getD, List.getElem?_eq_getElem hj, hq2]; rfl
    unfold faS at hx2
    split at hx2
    · rename_i hk
      have hx3 : x = q.1 := by simpa using hx2
      obtain ⟨k1, k2⟩ := hf_some h (fnd_at (x := x) h hj (by rw [e, hx3])) e
      rw [(pp_yes k1 k2).1, hk]
    · simp at hx2
  · intro hp
    by_cases hex : ∃ j, j < l.length ∧ (hx l j).1 = x
    · obtain ⟨j, hj, e⟩ := hex
      obtain ⟨k1, k2⟩ := hf_some (q := hx l j) h (fnd_at h hj e) rfl
      rw [(pp_yes k1 k2).1] at hp
      refine List.mem_flatMap.2 ⟨hx l j, hx_mem hj, ?_⟩
      unfold faS
      rw [if_pos hp, e]
      exact List.mem_singleton.2 rfl
    · have hn : fndV l x = -1 := fnd_none (fun j hj e => hex ⟨j, hj, e⟩)
      rw [(pp_no (hf_none (m := m) hn).1).1] at hp
      cases hp
theorem dp_back {o1 : Bool} {a1 b1 : Int} {o2 : Bool} {a2 b2 : Int} (h : dpK o1 a1 b1 o2 a2 b2 = true) :
    (vP (dpX o1 a1 b1 o2 a2 b2) (dpY o1 a1 b1 o2 a2 b2) = true) ∧ (o1 = false ∧ dpX o1 a1 b1 o2 a2 b2 % 100 = a1 ∧ dpY o1 a1 b1 o2 a2 b2 % 100 = b1) ∧ (o2 = true ∧ dpX o1 a1 b1 o2 a2 b2 % 99 = a2 ∧ dpY o1 a1 b1 o2 a2 b2 % 99 = b2) := by
  have h0 := h
  unfold dpK at h
  simp only [Bool.and_eq_true, Bool.not_eq_true'] at h
  obtain ⟨⟨⟨h1, h2⟩, h3⟩, h4⟩ := h
  subst h3 h4
  obtain ⟨⟨x0, x1⟩, y0, y1⟩ := vR_bd h1
  obtain ⟨⟨u0, u1⟩, v0, v1⟩ := vR_bd99 h2
  have eX : dpX false a1 b1 true a2 b2 = bo a1 a2 := by unfold dpX; rw [if_pos h0]
  have eY : dpY false a1 b1 true a2 b2 = bo b1 b2 := by unfold dpY; rw [if_pos h0]
  rw [eX, eY]
  have p1 : 0 ≤ bo a1 a2 ∧ bo a1 a2 ≤ 9899 ∧ bo a1 a2 % 100 = a1 ∧ bo a1 a2 % 99 = a2 := by unfold bo; omega
  have p2 : 0 ≤ bo b1 b2 ∧ bo b1 b2 ≤ 9899 ∧ bo b1 b2 % 100 = b1 ∧ bo b1 b2 % 99 = b2 := by unfold bo; omega
  exact ⟨vP_iff.2 ⟨⟨p1.1, p1.2.1⟩, p2.1, p2.2.1⟩, ⟨rfl, p1.2.2.1, p2.2.2.1⟩, rfl, p1.2.2.2, p2.2.2.2⟩
end Go.Proofs.Ytbeojfhakmbacaa
namespace Go.Proofs.Ytbeojfhakmbacaa
def RvK (m : Int) (l : List Hd) (s : ByteArray) (t : Int) : Bool := okR m l && rvK m l s t
def RvM (m : Int) (l : List Hd) (s : ByteArray) (t : Int) : Int := if okR m l = true then rvM m l s t else 0
def RvV (m : Int) (l : List Hd) (s : ByteArray) (t : Int) : List Hd := if okR m l = true then rvV m l s t else []
theorem Rv_bad {m : Int} {l : List Hd} {s : ByteArray} {t : Int} (h : okR m l = false) : RvK m l s t = false ∧ RvM m l s t = 0 ∧ RvV m l s t = [] :=
  ⟨by unfold RvK; rw [h]; rfl, by unfold RvM; rw [h]; rfl, by unfold RvV; rw [h]; rfl⟩
theorem Rv_ok {m : Int} {l : List Hd} {s : ByteArray} {t : Int} (h : okR m l = true) : RvK m l s t = rvK m l s t ∧ RvM m l s t = rvM m l s t ∧ RvV m l s t = rvV m l s t :=
  ⟨by unfold RvK; rw [h]; rfl, by unfold RvM; rw [if_pos h], by unfold RvV; rw [if_pos h]⟩
theorem RvV_len (m : Int) (l : List Hd) (s : ByteArray) (t : Int) : (RvV m l s t).length ≤ l.length + 1 := by
  unfold RvV; split
  · exact rvV_len _ _ _ _
  · simp
end Go.Proofs.Ytbeojfhakmbacaa
namespace Go.Proofs.Ytbeojfhakmbacaa
open Go.RowKit
theorem rof_of {x y a b : Int} {o : Bool} (h : vP x y = true) (ha : x % szOf o = a) (hb : y % szOf o = b) : rofO x y o = o ∧ rofA x y o = a ∧ rofB x y o = b :=
  ⟨by unfold rofO; rw [h]; rfl, by unfold rofA; rw [if_pos h, ha], by unfold rofB; rw [if_pos h, hb]⟩
theorem totF_upto {m : Int} {l : List Hd} (h : okR m l = true) : ∀ i : Nat, i ≤ l.length → 0 ≤ totF (l.take i) ∧ totF (l.take i) ≤ 9999 * i
  | 0, _ => by rw [tot_nil]; omega
  | i + 1, hi => by
    obtain ⟨h0, h1⟩ := totF_upto h i (by omega)
    rcases e : hx l i with ⟨a, ⟨eo, ea, eb⟩, et, ⟨oo, oa, ob⟩, ot, f⟩
    obtain ⟨_, ⟨f0, f1⟩, _⟩ := okH_bd h (show i < l.length by omega) e
    rw [tot_succ (show i < l.length by omega) (f := f) (by rw [e])]
    omega
theorem totF_bd {m : Int} {l : List Hd} (h : okR m l = true) : 0 ≤ totF l ∧ totF l ≤ 60000 := by
  have h1 := totF_upto h l.length (Nat.le_refl _)
  rw [List.take_length] at h1
  have h2 := (okR_iff h).2.1
  omega
theorem rv_facts {m : Int} {l : List Hd} {s : ByteArray} {t M : Int} {V : List Hd} (h : RvK m l s t = true) (hM : RvM m l s t = M) (hV : RvV m l s t = V) :
    okR m l = true ∧ rfK s = true ∧ M = t ∧ okR M V = true ∧ tfV m l = totF l ∧ tfV M V = totF l + 1 ∧ (0 ≤ totF l ∧ totF l ≤ 60000) ∧ hfK M V (rfAd s) = true ∧ 1 ≤ (hfV M V (rfAd s)).2.2.2.2.2 := by
  unfold RvK at h
  simp only [Bool.and_eq_true] at h
  obtain ⟨h0, h1⟩ := h
  obtain ⟨_, e1, e2⟩ := rv_yes h1
  obtain ⟨_, e3, e4⟩ := Rv_ok (s := s) (t := t) h0
  rw [e3, e1] at hM
  rw [e4, e2] at hV
  have hk := rv_ok h1
  rw [e1, e2, hV] at hk
  subst hM
  unfold rvK at h1
  simp only [Bool.and_eq_true] at h1
  have hfk := rcL_fnd (t := t) (A := rfAd s) (K := rfKd s) (D := rfDt s) (l := l) (by rw [hV]; exact hk)
  have hlt := rcL_lt t (rfAd s) (rfKd s) (rfDt s) l
  rw [hV] at hfk hlt
  obtain ⟨k1, k2⟩ := hf_some (q := hx V (rcI (rfAd s) l)) hk hfk rfl
  refine ⟨h0, h1.1, rfl, hk, by unfold tfV; rw [if_pos h0], ?_, totF_bd h0, k1, ?_⟩
  · unfold tfV; rw [if_pos hk, ← hV]; exact totF_rcL _ _ _ _ _
  · rw [k2]
    rcases e : hx V (rcI (rfAd s) l) with ⟨a, ⟨eo, ea, eb⟩, et, ⟨oo, oa, ob⟩, ot, f⟩
    obtain ⟨_, ⟨f0, f1⟩, _⟩ := okH_bd hk hlt e
    exact f0
theorem pp_back {m : Int} {l : List Hd} {y X Y : Int} (h : ppK m l y = true) (hX : ppX m l y = X) (hY : ppY m l y = Y) :
    ∃ a ea eb et oa ob ot f : Int, hfK m l y = true ∧ hfV m l y = (a, (false, ea, eb), et, (true, oa, ob), ot, f) ∧ vP X Y = true ∧
      (rofO X Y false = false ∧ rofA X Y false = ea ∧ rofB X Y false = eb) ∧ rofO X Y true = true ∧ rofA X Y true = oa ∧ rofB X Y true = ob := by
  have hk : hfK m l y = true := by
    rcases e : hfK m l y with _ | _
    · rw [(pp_no e).1] at h; cases h
    · rfl
  rcases hq : hfV m l y with ⟨a, ⟨eo, ea, eb⟩, et, ⟨oo, oa, ob⟩, ot, f⟩
  obtain ⟨p1, p2, p3⟩ := pp_yes hk hq
  rw [p1] at h
  rw [p2] at hX
  rw [p3] at hY
  have hf : pnF m (a, (eo, ea, eb), et, (oo, oa, ob), ot, f) = true := by
    rcases e : pnF m (a, (eo, ea, eb), et, (oo, oa, ob), ot, f) with _ | _
    · rw [(pn_no e).1] at h; cases h
    · rfl
  obtain ⟨q1, q2, q3⟩ := pn_yes hf
  rw [q1] at h
  rw [q2] at hX
  rw [q3] at hY
  obtain ⟨r1, ⟨r2, r3, r4⟩, r5, r6, r7⟩ := dp_back h
  rw [hX, hY] at r1
  rw [hX] at r3 r6
  rw [hY] at r4 r7
  subst r2 r5
  exact ⟨a, ea, eb, et, oa, ob, ot, f, hk, rfl, r1, rof_of r1 r3 r4, rof_of r1 r6 r7⟩
theorem fa_has {m : Int} {l : List Hd} {y : Int} {K : Bool} (h : okR m l = true) (hK : ppK m l y = K) : decide (y ∈ faV m l) = K := by
  have e : faV m l = faL m l := by unfold faV; rw [if_pos h]
  rw [e, ← hK]
  rcases k : ppK m l y with _ | _
  · exact decide_eq_false (fun h9 => by rw [(fa_pp y h).1 h9] at k; cases k)
  · exact decide_eq_true ((fa_pp y h).2 k)
theorem pp_okR {m : Int} {l : List Hd} {y : Int} (h : ppK m l y = true) : okR m l = true := by
  unfold ppK hfK at h
  simp only [Bool.and_eq_true] at h
  exact h.1.1
end Go.Proofs.Ytbeojfhakmbacaa
namespace Go.Proofs.Ytbeojfhakmbacaa
open Go.RowKit
set_option maxHeartbeats 16000000 in
theorem validRecv_c (m : Int) (A : Option Addr) (c : Nat) (l : List Hd) (w : World) (h1 : Hid (Reads w w.heap.size 10 A l.length (hds l))) (b1 : l.length ≤ 4000000)  : Calls Try.prog 18 #[.agg #[.int .i64 m, .slice A l.length c]] w (Gives w (.bool (okR m l))) := by
  rcases hm : wi m 0 9999 with _ | _
  · have HF := hide (okR_min (l := l) hm)
    go_enter Try.func18, Try.ntmps18
    go_wp2_with (first | (go_at_call 61; refine (isMinute_c _ _).mono ?_; rintro e w1 ⟨rfl, rfl⟩))
    go_returns
    exact ⟨ret_eq (by rw [HF.out]; simp), by go_grown⟩
  by_cases hsix : 6 < l.length
  · have HF := hide (okR_six (m := m) hsix)
    go_enter Try.func18, Try.ntmps18
    go_wp2_with (first | (go_at_call 61; refine (isMinute_c _ _).mono ?_; rintro e w1 ⟨rfl, rfl⟩))
    go_returns
    exact ⟨ret_eq (by rw [HF.out]; simp), by go_grown⟩
  have hM := hide hm
  have h6 : l.length ≤ 6 := by omega
  go_enter Try.func18, Try.ntmps18
  go_wp2_with (first | (go_at_call 61; refine (isMinute_c _ _).mono ?_; rintro e w1 ⟨rfl, rfl⟩))
  go_loopw [18] (fun iv wr => ∃ i : Nat, i ≤ l.length ∧ iv = .int .i64 i ∧ Hid (okN m l i) ∧ (wr.cell? ⟨w.heap.size, 0, none⟩ = some (.int .i64 m) ∧ wr.cell? ⟨w.heap.size, 1, none⟩ = some (.slice A l.length c) ∧ Below w.heap.size w wr)) (fun iv _ => l.length - (intOf iv).toNat)
  case atStart => exact ⟨0, by omega, rfl, hide okN_zero, by first | (with_reducible assumption) | (exact hS) | (exact ⟨hS.1, hS.2.1, (by go_grown)⟩) | (exact ⟨(by first | (with_reducible assumption) | (simp [go_sem]; done) | ((simp only [go_sem]); (with_reducible assumption)) | ((refine keep_cell ?_ (by with_reducible assumption)); go_grown; done) | (simp [go_sem, *]; done)), (by first | (with_reducible assumption) | (simp [go_sem]; done) | ((simp only [go_sem]); (with_reducible assumption)) | ((refine keep_cell ?_ (by with_reducible assumption)); go_grown; done) | (simp [go_sem, *]; done)), (by go_grown)⟩)⟩
  case round =>
    obtain ⟨i, hi, rfl, HN, hS⟩ := hrel
    have hS2 := hS
    obtain ⟨r0, r1, hB⟩ := hS2
    have hzw : w.heap.size ≤ wr.heap.size := hB.size
    have hz1 : w.heap.size < wr.heap.size := World.block_lt_of_cell? wr _ (hS.1)
    by_cases hlt : i < l.length
    rotate_left
    · obtain rfl : i = l.length := by omega
      have HF := hide (okR_yes hM.out h6 HN.out)
      go_wp2
      go_returns
      exact ⟨ret_eq (by rw [HF.out]; simp), by go_grown⟩
    obtain ⟨⟨a, ⟨eo, ea, eb⟩, et, ⟨oo, oa, ob⟩, ot, f⟩, he⟩ : ∃ q, hx l i = q := ⟨_, rfl⟩
    obtain ⟨a1, rfl, ekb, e0, e1, e2, e3, e4, e5, e6, e7, e8, e9⟩ := (h1.out.below hB).hd (k := i) (by omega) he
    have HE := hide he
    clear he
    have HO := hide (okH_eq (m := m) HE.out)
    by_cases hz : i = 0
    · have HZ := hide hz
      have hz0 : ¬ 0 < i := by omega
      clear hz
      rcases k1 : wi a 1 65535 with _ | _
      have HF := hide (okR_bad (m := m) hlt (fun h => by rw [HO.out] at h; simp [k1] at h))
      rotate_left
      rcases k2 : wi f 1 9999 with _ | _
      have HF := hide (okR_bad (m := m) hlt (fun h => by rw [HO.out] at h; simp [k2] at h))
      rotate_left
      rcases k3 : kpt (eo, ea, eb) et false m with _ | _
      have HF := hide (okR_bad (m := m) hlt (fun h => by rw [HO.out] at h; simp [k3] at h))
      rotate_left
      rcases k4 : kpt (oo, oa, ob) ot true m with _ | _
      have HF := hide (okR_bad (m := m) hlt (fun h => by rw [HO.out] at h; simp [k4] at h))
      rotate_left
      have HN2 := hide (okN_succ HN.out (by rw [HO.out, k1, k2, k3, k4]; rfl) (by rw [HZ.out]; exact asc_zero))
      all_goals go_wp2
      all_goals
        refine wp_region_det (fun w' => w'.cell? ⟨w.heap.size, 0, none⟩ = some (.int .i64 m) ∧ w'.cell? ⟨w.heap.size, 1, none⟩ = some (.slice (some a1) l.length c) ∧ w'.cell? ⟨wr.heap.size, 0, none⟩ = some (.int .i64 a) ∧ w'.cell? ⟨wr.heap.size, 1, none⟩ = some (.bool eo) ∧ w'.cell? ⟨wr.heap.size, 2, none⟩ = some (.int .i64 ea) ∧ w'.cell? ⟨wr.heap.size, 3, none⟩ = some (.int .i64 eb) ∧ w'.cell? ⟨wr.heap.size, 4, none⟩ = some (.int .i64 et) ∧ w'.cell? ⟨wr.heap.size, 5, none⟩ = some (.bool oo) ∧ w'.cell? ⟨wr.heap.size, 6, none⟩ = some (.int .i64 oa) ∧ w'.cell? ⟨wr.heap.size, 7, none⟩ = some (.int .i64 ob) ∧ w'.cell? ⟨wr.heap.size, 8, none⟩ = some (.int .i64 ot) ∧ w'.cell? ⟨wr.heap.size, 9, none⟩ = some (.int .i64 f) ∧ Below w.heap.size w w') (by kernel_rfl) (by kernel_rfl) (by first | (with_reducible assumption) | (exact hS) | (exact ⟨hS.1, hS.2.1, hS.2.2.1, hS.2.2.2.1, hS.2.2.2.2.1, hS.2.2.2.2.2.1, hS.2.2.2.2.2.2.1, hS.2.2.2.2.2.2.2.1, hS.2.2.2.2.2.2.2.2.1, hS.2.2.2.2.2.2.2.2.2.1, hS.2.2.2.2.2.2.2.2.2.2.1, hS.2.2.2.2.2.2.2.2.2.2.2.1, (by go_grown)⟩) | (exact ⟨(by first | (with_reducible assumption) | (simp [go_sem]; done) | ((simp only [go_sem]); (with_reducible assumption)) | ((refine keep_cell ?_ (by with_reducible assumption)); go_grown; done) | (simp [go_sem, *]; done)), (by first | (with_reducible assumption) | (simp [go_sem]; done) | ((simp only [go_sem]); (with_reducible assumption)) | ((refine keep_cell ?_ (by with_reducible assumption)); go_grown; done) | (simp [go_sem, *]; done)), (by first | (with_reducible assumption) | (simp [go_sem]; done) | ((simp only [go_sem]); (with_reducible assumption)) | ((refine keep_cell ?_ (by with_reducible assumption)); go_grown; done) | (simp [go_sem, *]; done)), (by first | (with_reducible assumption) | (simp [go_sem]; done) | ((simp only [go_sem]); (with_reducible assumption)) | ((refine keep_cell ?_ (by with_reducible assumption)); go_grown; done) | (simp [go_sem, *]; done)), (by first | (with_reducible assumption) | (simp [go_sem]; done) | ((simp only [go_sem]); (with_reducible assumption)) | ((refine keep_cell ?_ (by with_reducible assumption)); go_grown; done) | (simp [go_sem, *]; done)), (by first | (with_reducible assumption) | (simp [go_sem]; done) | ((simp only [go_sem]); (with_reducible assumption)) | ((refine keep_cell ?_ (by with_reducible assumption)); go_grown; done) | (simp [go_sem, *]; done)), (by first | (with_reducible assumption) | (simp [go_sem]; done) | ((simp only [go_sem]); (with_reducible assumption)) | ((refine keep_cell ?_ (by with_reducible assumption)); go_grown; done) | (simp [go_sem, *]; done)), (by first | (with_reducible assumption) | (simp [go_sem]; done) | ((simp only [go_sem]); (with_reducible assumption)) | ((refine keep_cell ?_ (by with_reducible assumption)); go_grown; done) | (simp [go_sem, *]; done)), (by first | (with_reducible assumption) | (simp [go_sem]; done) | ((simp only [go_sem]); (with_reducible assumption)) | ((refine keep_cell ?_ (by with_reducible assumption)); go_grown; done) | (simp [go_sem, *]; done)), (by first | (with_reducible assumption) | (simp [go_sem]; done) | ((simp only [go_sem]); (with_reducible assumption)) | ((refine keep_cell ?_ (by with_reducible assumption)); go_grown; done) | (simp [go_sem, *]; done)), (by first | (with_reducible assumption) | (simp [go_sem]; done) | ((simp only [go_sem]); (with_reducible assumption)) | ((refine keep_cell ?_ (by with_reducible assumption)); go_grown; done) | (simp [go_sem, *]; done)), (by first | (with_reducible assumption) | (simp [go_sem]; done) | ((simp only [go_sem]); (with_reducible assumption)) | ((refine keep_cell ?_ (by with_reducible assumption)); go_grown; done) | (simp [go_sem, *]; done)), (by go_grown)⟩)) ?_
        repeat (first
          | ((refine wpDet_skip (by rfl) ?_); simp only [Act.put, zp1, zp2, zp3])
          | ((refine wpDet_val (v := ?_) (by rfl) (fun w hS => ?_) ?_); rotate_left; (focus ((try dsimp only at hS); go_simp; (try (with_reducible rfl)); done)); simp only [Act.put, zp1, zp2, zp3])
          | ((refine wpDet_call (v := ?_) (f := ?_) (args := ?_) (by rfl) (fun w => ?_) (fun w hS => ?_) ?_); rotate_left; rotate_left; rotate_left; (focus (go_simp; (constructor <;> (with_reducible rfl)); done)); (focus (first | (go_at_call 62; refine (isAddress_c _ _).mono ?_; intro e w' h; refine ⟨h.1.trans ?_, h.2 ▸ hS⟩; with_reducible rfl) | (go_at_call 63; refine (within_c _ _ _ _).mono ?_; intro e w' h; refine ⟨h.1.trans ?_, h.2 ▸ hS⟩; with_reducible rfl) | (go_at_call 64; refine (isKept_c _ _ _ _ _ _ _).mono ?_; intro e w' h; refine ⟨h.1.trans ?_, ⟨keep_cell (h.2) hS.1, keep_cell (h.2) hS.2.1, keep_cell (h.2) hS.2.2.1, keep_cell (h.2) hS.2.2.2.1, keep_cell (h.2) hS.2.2.2.2.1, keep_cell (h.2) hS.2.2.2.2.2.1, keep_cell (h.2) hS.2.2.2.2.2.2.1, keep_cell (h.2) hS.2.2.2.2.2.2.2.1, keep_cell (h.2) hS.2.2.2.2.2.2.2.2.1, keep_cell (h.2) hS.2.2.2.2.2.2.2.2.2.1, keep_cell (h.2) hS.2.2.2.2.2.2.2.2.2.2.1, keep_cell (h.2) hS.2.2.2.2.2.2.2.2.2.2.2.1, below_via hS.2.2.2.2.2.2.2.2.2.2.2.2 (h.2)⟩⟩; with_reducible rfl))); simp only [Act.put, zp1, zp2, zp3]))
        refine wpDet_nil ?_
        intro w1 hS
        have hT : w1.cell? ⟨w.heap.size, 0, none⟩ = some (.int .i64 m) ∧ w1.cell? ⟨w.heap.size, 1, none⟩ = some (.slice (some a1) l.length c) ∧ w1.cell? ⟨wr.heap.size, 0, none⟩ = some (.int .i64 a) ∧ w1.cell? ⟨wr.heap.size, 1, none⟩ = some (.bool eo) ∧ w1.cell? ⟨wr.heap.size, 2, none⟩ = some (.int .i64 ea) ∧ w1.cell? ⟨wr.heap.size, 3, none⟩ = some (.int .i64 eb) ∧ w1.cell? ⟨wr.heap.size, 4, none⟩ = some (.int .i64 et) ∧ w1.cell? ⟨wr.heap.size, 5, none⟩ = some (.bool oo) ∧ w1.cell? ⟨wr.heap.size, 6, none⟩ = some (.int .i64 oa) ∧ w1.cell? ⟨wr.heap.size, 7, none⟩ = some (.int .i64 ob) ∧ w1.cell? ⟨wr.heap.size, 8, none⟩ = some (.int .i64 ot) ∧ w1.cell? ⟨wr.heap.size, 9, none⟩ = some (.int .i64 f) ∧ Below w.heap.size w w1 := hS
        clear hS
        have hS := hT
        obtain ⟨c0, c1, c2, c3, c4, c5, c6, c7, c8, c9, c10, c11, hB⟩ := hT
        have hzw : w.heap.size ≤ w1.heap.size := hB.size
        have hz1 : w.heap.size < w1.heap.size := World.block_lt_of_cell? w1 _ (hS.1)
        have hz2 : wr.heap.size < w1.heap.size := World.block_lt_of_cell? w1 _ (hS.2.2.1)
        go_wp2
      go_roundw
      case rel => exact ⟨i + 1, by omega, by go_num, HN2, by first | (with_reducible assumption) | (exact hS) | (exact ⟨hS.1, hS.2.1, (by go_grown)⟩) | (exact ⟨(by first | (with_reducible assumption) | (simp [go_sem]; done) | ((simp only [go_sem]); (with_reducible assumption)) | ((refine keep_cell ?_ (by with_reducible assumption)); go_grown; done) | (simp [go_sem, *]; done)), (by first | (with_reducible assumption) | (simp [go_sem]; done) | ((simp only [go_sem]); (with_reducible assumption)) | ((refine keep_cell ?_ (by with_reducible assumption)); go_grown; done) | (simp [go_sem, *]; done)), (by go_grown)⟩)⟩
      case measure => simp [intOf]; omega
      all_goals
        go_returns
        exact ⟨ret_eq (by rw [HF.out]; simp), by go_grown⟩
    obtain ⟨k, hk⟩ : ∃ k, i = k + 1 := ⟨i - 1, by omega⟩
    have hz0 : 0 < i := by omega
    have ek : IntKind.i64.wrap ((i : Int) - 1) = (k : Int) := by rw [show (i : Int) - 1 = (k : Int) from by omega]; exact IntWalk.i64_in _ (by omega)
    have HK := hide hk
    have hkl : k < l.length := by omega
    obtain ⟨a2, ha2⟩ : ∃ q, (hx l k).1 = q := ⟨_, rfl⟩
    obtain ⟨ad2, hd2, gkb, g0⟩ := (h1.out.below hB).hd1 (k := k) hkl ha2
    cases hd2
    clear hk hz
    have hasc := hide (show ascH l i ↔ a2 < a from by have h9 := HE.out; rw [HK.out] at h9 ⊢; exact asc_succ (by rw [h9]) ha2)
    rcases k1 : wi a 1 65535 with _ | _
    have HF := hide (okR_bad (m := m) hlt (fun h => by rw [HO.out] at h; simp [k1] at h))
    rotate_left
    rcases k2 : wi f 1 9999 with _ | _
    have HF := hide (okR_bad (m := m) hlt (fun h => by rw [HO.out] at h; simp [k2] at h))
    rotate_left
    rcases k3 : kpt (eo, ea, eb) et false m with _ | _
    have HF := hide (okR_bad (m := m) hlt (fun h => by rw [HO.out] at h; simp [k3] at h))
    rotate_left
    rcases k4 : kpt (oo, oa, ob) ot true m with _ | _
    have HF := hide (okR_bad (m := m) hlt (fun h => by rw [HO.out] at h; simp [k4] at h))
    rotate_left
    by_cases hq3 : a ≤ a2
    have hq : ¬ a2 < a := by omega
    have HF := hide (okR_bad (m := m) hlt (fun h => absurd (hasc.out.1 h.2) (by omega)))
    rotate_left
    have hq : a2 < a := by omega
    clear hq3
    have HN2 := hide (okN_succ HN.out (by rw [HO.out, k1, k2, k3, k4]; rfl) (hasc.out.2 hq))
    have hq2 : (a ≤ a2) = False := eq_false (by omega)
    all_goals go_wp2
    all_goals
      refine wp_region_det (fun w' => w'.cell? ⟨w.heap.size, 0, none⟩ = some (.int .i64 m) ∧ w'.cell? ⟨w.heap.size, 1, none⟩ = some (.slice (some a1) l.length c) ∧ w'.cell? ⟨wr.heap.size, 0, none⟩ = some (.int .i64 a) ∧ w'.cell? ⟨wr.heap.size, 1, none⟩ = some (.bool eo) ∧ w'.cell? ⟨wr.heap.size, 2, none⟩ = some (.int .i64 ea) ∧ w'.cell? ⟨wr.heap.size, 3, none⟩ = some (.int .i64 eb) ∧ w'.cell? ⟨wr.heap.size, 4, none⟩ = some (.int .i64 et) ∧ w'.cell? ⟨wr.heap.size, 5, none⟩ = some (.bool oo) ∧ w'.cell? ⟨wr.heap.size, 6, none⟩ = some (.int .i64 oa) ∧ w'.cell? ⟨wr.heap.size, 7, none⟩ = some (.int .i64 ob) ∧ w'.cell? ⟨wr.heap.size, 8, none⟩ = some (.int .i64 ot) ∧ w'.cell? ⟨wr.heap.size, 9, none⟩ = some (.int .i64 f) ∧ w'.cell? (a1.add (k * 10)) = some (.int .i64 a2) ∧ Below w.heap.size w w') (by kernel_rfl) (by kernel_rfl) (by first | (with_reducible assumption) | (exact hS) | (exact ⟨hS.1, hS.2.1, hS.2.2.1, hS.2.2.2.1, hS.2.2.2.2.1, hS.2.2.2.2.2.1, hS.2.2.2.2.2.2.1, hS.2.2.2.2.2.2.2.1, hS.2.2.2.2.2.2.2.2.1, hS.2.2.2.2.2.2.2.2.2.1, hS.2.2.2.2.2.2.2.2.2.2.1, hS.2.2.2.2.2.2.2.2.2.2.2.1, hS.2.2.2.2.2.2.2.2.2.2.2.2.1, (by go_grown)⟩) | (exact ⟨(by first | (with_reducible assumption) | (simp [go_sem]; done) | ((simp only [go_sem]); (with_reducible assumption)) | ((refine keep_cell ?_ (by with_reducible assumption)); go_grown; done) | (simp [go_sem, *]; done)), (by first | (with_reducible assumption) | (simp [go_sem]; done) | ((simp only [go_sem]); (with_reducible assumption)) | ((refine keep_cell ?_ (by with_reducible assumption)); go_grown; done) | (simp [go_sem, *]; done)), (by first | (with_reducible assumption) | (simp [go_sem]; done) | ((simp only [go_sem]); (with_reducible assumption)) | ((refine keep_cell ?_ (by with_reducible assumption)); go_grown; done) | (simp [go_sem, *]; done)), (by first | (with_reducible assumption) | (simp [go_sem]; done) | ((simp only [go_sem]); (with_reducible assumption)) | ((refine keep_cell ?_ (by with_reducible assumption)); go_grown; done) | (simp [go_sem, *]; done)), (by first | (with_reducible assumption) | (simp [go_sem]; done) | ((simp only [go_sem]); (with_reducible assumption)) | ((refine keep_cell ?_ (by with_reducible assumption)); go_grown; done) | (simp [go_sem, *]; done)), (by first | (with_reducible assumption) | (simp [go_sem]; done) | ((simp only [go_sem]); (with_reducible assumption)) | ((refine keep_cell ?_ (by with_reducible assumption)); go_grown; done) | (simp [go_sem, *]; done)), (by first | (with_reducible assumption) | (simp [go_sem]; done) | ((simp only [go_sem]); (with_reducible assumption)) | ((refine keep_cell ?_ (by with_reducible assumption)); go_grown; done) | (simp [go_sem, *]; done)), (by first | (with_reducible assumption) | (simp [go_sem]; done) | ((simp only [go_sem]); (with_reducible assumption)) | ((refine keep_cell ?_ (by with_reducible assumption)); go_grown; done) | (simp [go_sem, *]; done)), (by first | (with_reducible assumption) | (simp [go_sem]; done) | ((simp only [go_sem]); (with_reducible assumption)) | ((refine keep_cell ?_ (by with_reducible assumption)); go_grown; done) | (simp [go_sem, *]; done)), (by first | (with_reducible assumption) | (simp [go_sem]; done) | ((simp only [go_sem]); (with_reducible assumption)) | ((refine keep_cell ?_ (by with_reducible assumption)); go_grown; done) | (simp [go_sem, *]; done)), (by first | (with_reducible assumption) | (simp [go_sem]; done) | ((simp only [go_sem]); (with_reducible assumption)) | ((refine keep_cell ?_ (by with_reducible assumption)); go_grown; done) | (simp [go_sem, *]; done)), (by first | (with_reducible assumption) | (simp [go_sem]; done) | ((simp only [go_sem]); (with_reducible assumption)) | ((refine keep_cell ?_ (by with_reducible assumption)); go_grown; done) | (simp [go_sem, *]; done)), (by first | (with_reducible assumption) | (simp [go_sem]; done) | ((simp only [go_sem]); (with_reducible assumption)) | ((refine keep_cell ?_ (by with_reducible assumption)); go_grown; done) | (simp [go_sem, *]; done)), (by go_grown)⟩)) ?_
      repeat (first
        | ((refine wpDet_skip (by rfl) ?_); simp only [Act.put, zp1, zp2, zp3])
        | ((refine wpDet_val (v := ?_) (by rfl) (fun w hS => ?_) ?_); rotate_left; (focus ((try dsimp only at hS); go_simp; (try (with_reducible rfl)); done)); simp only [Act.put, zp1, zp2, zp3])
        | ((refine wpDet_call (v := ?_) (f := ?_) (args := ?_) (by rfl) (fun w => ?_) (fun w hS => ?_) ?_); rotate_left; rotate_left; rotate_left; (focus (go_simp; (constructor <;> (with_reducible rfl)); done)); (focus (first | (go_at_call 62; refine (isAddress_c _ _).mono ?_; intro e w' h; refine ⟨h.1.trans ?_, h.2 ▸ hS⟩; with_reducible rfl) | (go_at_call 63; refine (within_c _ _ _ _).mono ?_; intro e w' h; refine ⟨h.1.trans ?_, h.2 ▸ hS⟩; with_reducible rfl) | (go_at_call 64; refine (isKept_c _ _ _ _ _ _ _).mono ?_; intro e w' h; refine ⟨h.1.trans ?_, ⟨keep_cell (h.2) hS.1, keep_cell (h.2) hS.2.1, keep_cell (h.2) hS.2.2.1, keep_cell (h.2) hS.2.2.2.1, keep_cell (h.2) hS.2.2.2.2.1, keep_cell (h.2) hS.2.2.2.2.2.1, keep_cell (h.2) hS.2.2.2.2.2.2.1, keep_cell (h.2) hS.2.2.2.2.2.2.2.1, keep_cell (h.2) hS.2.2.2.2.2.2.2.2.1, keep_cell (h.2) hS.2.2.2.2.2.2.2.2.2.1, keep_cell (h.2) hS.2.2.2.2.2.2.2.2.2.2.1, keep_cell (h.2) hS.2.2.2.2.2.2.2.2.2.2.2.1, keep_cell (h.2) hS.2.2.2.2.2.2.2.2.2.2.2.2.1, below_via hS.2.2.2.2.2.2.2.2.2.2.2.2.2 (h.2)⟩⟩; with_reducible rfl))); simp only [Act.put, zp1, zp2, zp3]))
      refine wpDet_nil ?_
      intro w1 hS
      have hT : w1.cell? ⟨w.heap.size, 0, none⟩ = some (.int .i64 m) ∧ w1.cell? ⟨w.heap.size, 1, none⟩ = some (.slice (some a1) l.length c) ∧ w1.cell? ⟨wr.heap.size, 0, none⟩ = some (.int .i64 a) ∧ w1.cell? ⟨wr.heap.size, 1, none⟩ = some (.bool eo) ∧ w1.cell? ⟨wr.heap.size, 2, none⟩ = some (.int .i64 ea) ∧ w1.cell? ⟨wr.heap.size, 3, none⟩ = some (.int .i64 eb) ∧ w1.cell? ⟨wr.heap.size, 4, none⟩ = some (.int .i64 et) ∧ w1.cell? ⟨wr.heap.size, 5, none⟩ = some (.bool oo) ∧ w1.cell? ⟨wr.heap.size, 6, none⟩ = some (.int .i64 oa) ∧ w1.cell? ⟨wr.heap.size, 7, none⟩ = some (.int .i64 ob) ∧ w1.cell? ⟨wr.heap.size, 8, none⟩ = some (.int .i64 ot) ∧ w1.cell? ⟨wr.heap.size, 9, none⟩ = some (.int .i64 f) ∧ w1.cell? (a1.add (k * 10)) = some (.int .i64 a2) ∧ Below w.heap.size w w1 := hS
      clear hS
      have hS := hT
      obtain ⟨c0, c1, c2, c3, c4, c5, c6, c7, c8, c9, c10, c11, c12, hB⟩ := hT
      have hzw : w.heap.size ≤ w1.heap.size := hB.size
      have hz1 : w.heap.size < w1.heap.size := World.block_lt_of_cell? w1 _ (hS.1)
      have hz2 : wr.heap.size < w1.heap.size := World.block_lt_of_cell? w1 _ (hS.2.2.1)
      go_wp2
    go_roundw
    case rel => exact ⟨i + 1, by omega, by go_num, HN2, by first | (with_reducible assumption) | (exact hS) | (exact ⟨hS.1, hS.2.1, (by go_grown)⟩) | (exact ⟨(by first | (with_reducible assumption) | (simp [go_sem]; done) | ((simp only [go_sem]); (with_reducible assumption)) | ((refine keep_cell ?_ (by with_reducible assumption)); go_grown; done) | (simp [go_sem, *]; done)), (by first | (with_reducible assumption) | (simp [go_sem]; done) | ((simp only [go_sem]); (with_reducible assumption)) | ((refine keep_cell ?_ (by with_reducible assumption)); go_grown; done) | (simp [go_sem, *]; done)), (by go_grown)⟩)⟩
    case measure => simp [intOf]; omega
    all_goals
      go_returns
      exact ⟨ret_eq (by rw [HF.out]; simp), by go_grown⟩
end Go.Proofs.Ytbeojfhakmbacaa
namespace Go.Proofs.Ytbeojfhakmbacaa
open Go.RowKit
theorem gb_refl (w : World) (r : Option Nat) : w.grownBy w r := ⟨rfl, rfl, rfl, Nat.le_refl _, fun _ _ _ => rfl⟩
theorem gb_drew {w w' : World} {r : Option Nat} (h : w.grownBy w' r) : w.grownBy w'.drew r := ⟨h.os, h.tape, h.output, h.size, h.block⟩
theorem gb_below {w w' w'' : World} {r : Option Nat} (h : w.grownBy w' r) (hb : Below w'.heap.size w' w'') : w.grownBy w'' r :=
  ⟨hb.os.trans h.os, hb.tape.trans h.tape, hb.output.trans h.output, Nat.le_trans h.size hb.size, fun k hk hr => (hb.block k (Nat.lt_of_lt_of_le hk h.size)).trans (h.block k hk hr)⟩
theorem gb_alloc {w w' : World} {r : Option Nat} (h : w.grownBy w' r) (o : Obj) : w.grownBy (w'.alloc o) r := gb_below h (by go_grown)
theorem gb_set {w w' : World} {g : Nat} (h : w.grownBy w' (some g)) (k : Nat) (u : Value) : w.grownBy (w'.setCell ⟨g, k, none⟩ u) (some g) :=
  ⟨h.os, h.tape, h.output, by simpa using h.size, fun b hb hr => (Below.heap_setCell w' ⟨g, k, none⟩ u b (fun e => hr (by rw [e]))).trans (h.block b hb hr)⟩
def CurAt (w : World) (g : Nat) (i : Nat) (sd : Int) : Prop :=
  ∃ A n c, w.cell? ⟨g, 0, none⟩ = some (.slice A n c) ∧ w.cell? ⟨g, 1, none⟩ = some (.int .i64 (i : Int)) ∧ w.cell? ⟨g, 2, none⟩ = some (.int .u64 sd) ∧ n ≤ 65536 ∧
    (∀ j, w.frozen? ⟨g, j, none⟩ = false) ∧ (0 < n → ∃ ad : Addr, A = some ad ∧ ad.block < g ∧ ∀ j, j < n → ∃ b : Int, 0 ≤ b ∧ b ≤ 255 ∧ w.cell? (ad.add j) = some (.int .u8 b))
def Cur (w : World) (g k : Nat) : Prop := ∃ i sd, i ≤ k ∧ CurAt w g i sd
theorem CurAt.lt {w : World} {g i : Nat} {sd : Int} (h : CurAt w g i sd) : g < w.heap.size := by
  obtain ⟨A, n, c, h0, _⟩ := h
  exact World.block_lt_of_cell? w _ h0
theorem CurAt.keep {w w' : World} {g i : Nat} {sd : Int} (h : CurAt w g i sd) (hk : ∀ b, b ≤ g → w'.heap[b]? = w.heap[b]?) : CurAt w' g i sd := by
  obtain ⟨A, n, c, h0, h1, h2, hn, hf, hx⟩ := h
  have hc : ∀ j, w'.cell? ⟨g, j, none⟩ = w.cell? ⟨g, j, none⟩ := fun j => World.cell?_of_block (hk g (Nat.le_refl _))
  refine ⟨A, n, c, (hc 0).trans h0, (hc 1).trans h1, (hc 2).trans h2, hn, fun j => (World.frozen?_of_block (hk g (Nat.le_refl _))).trans (hf j), fun h => ?_⟩
  obtain ⟨ad, e, hb, ha⟩ := hx h
  refine ⟨ad, e, hb, fun j hj => ?_⟩
  obtain ⟨b, b0, b1, hc⟩ := ha j hj
  exact ⟨b, b0, b1, (World.cell?_of_block (hk _ (by rw [block_of_add]; omega))).trans hc⟩
theorem Cur.lt {w : World} {g k : Nat} (h : Cur w g k) : g < w.heap.size := by obtain ⟨i, sd, _, h⟩ := h; exact h.lt
theorem Cur.below {w w' : World} {g k : Nat} (h : Cur w g k) (hb : Below w.heap.size w w') : Cur w' g k := by
  have hl := h.lt
  obtain ⟨i, sd, hi, h⟩ := h
  exact ⟨i, sd, hi, h.keep fun b hb' => hb.block b (by omega)⟩
theorem Cur.more {w : World} {g k k' : Nat} (h : Cur w g k) (hk : k ≤ k') : Cur w g k' := by obtain ⟨i, sd, hi, h⟩ := h; exact ⟨i, sd, by omega, h⟩
theorem Cur.drew {w : World} {g k : Nat} (h : Cur w g k) : Cur w.drew g k := h.below (by go_grown)
theorem Cur.alloc {w : World} {g k : Nat} (h : Cur w g k) (o : Obj) : Cur (w.alloc o) g k := h.below (by go_grown)
theorem Cur.grown {w w' : World} {g k : Nat} (h : Cur w g k) {r : Option Nat} (hg : w.grownBy w' r) (hr : ∀ b, r = some b → g < b) : Cur w' g k := by
  have hl := h.lt
  obtain ⟨i, sd, hi, h⟩ := h
  exact ⟨i, sd, hi, h.keep fun b hb' => hg.block b (by omega) (fun e => by have := hr b e.symm; omega)⟩
def CurG (w : World) (g k : Nat) (V : Value → World → Prop) (e : Ending) (w' : World) : Prop := ∃ v, e = .returned v ∧ V v w' ∧ Cur w' g k ∧ w.grownBy w' (some g)
def IsI (a b : Int) (v : Value) (_ : World) : Prop := ∃ x : Int, v = .int .i64 x ∧ a ≤ x ∧ x ≤ b
def IsB (v : Value) (_ : World) : Prop := ∃ b : Bool, v = .bool b
def IsP (a b : Int) (v : Value) (_ : World) : Prop := ∃ x y : Int, v = .agg #[.int .i64 x, .int .i64 y] ∧ (a ≤ x ∧ x ≤ b) ∧ a ≤ y ∧ y ≤ b
theorem set_cur {w : World} {g i : Nat} {sd : Int} (h : CurAt w g i sd) (i' : Nat) (sd' : Int) : CurAt ((w.setCell ⟨g, 1, none⟩ (.int .i64 (i' : Int))).setCell ⟨g, 2, none⟩ (.int .u64 sd')) g i' sd' := by
  obtain ⟨A, n, c, h0, h1, h2, hn, hf, hx⟩ := h
  have e1 : (w.setCell ⟨g, 1, none⟩ (.int .i64 (i' : Int))).cell? ⟨g, 1, none⟩ = some (.int .i64 (i' : Int)) := World.cell?_setCell_same _ _ _ h1
  have e2 : (w.setCell ⟨g, 1, none⟩ (.int .i64 (i' : Int))).cell? ⟨g, 2, none⟩ = some (.int .u64 sd) := by rw [World.cell?_setCell_other _ _ _ _ (by simp)]; exact h2
  have hk : ∀ b, b ≠ g → ((w.setCell ⟨g, 1, none⟩ (.int .i64 (i' : Int))).setCell ⟨g, 2, none⟩ (.int .u64 sd')).heap[b]? = w.heap[b]? := fun b hb =>
    (Below.heap_setCell _ ⟨g, 2, none⟩ _ b hb).trans (Below.heap_setCell _ ⟨g, 1, none⟩ _ b hb)
  refine ⟨A, n, c, ?_, ?_, World.cell?_setCell_same _ _ _ e2, hn, fun j => by simpa using hf j, fun h => ?_⟩
  · rw [World.cell?_setCell_other _ _ _ _ (by simp), World.cell?_setCell_other _ _ _ _ (by simp)]; exact h0
  · rw [World.cell?_setCell_other _ _ _ _ (by simp)]; exact e1
  · obtain ⟨ad, e, hb, ha⟩ := hx h
    refine ⟨ad, e, hb, fun j hj => ?_⟩
    obtain ⟨b, b0, b1, hc⟩ := ha j hj
    exact ⟨b, b0, b1, (World.cell?_of_block (hk _ (by rw [block_of_add]; omega))).trans hc⟩
theorem cur_cells {w : World} {g : Nat} {x y z : Value} (h0 : w.cell? ⟨g, 0, none⟩ = some x) (h1 : w.cell? ⟨g, 1, none⟩ = some y) (h2 : w.cell? ⟨g, 2, none⟩ = some z) (u v : Value) :
    ((w.setCell ⟨g, 1, none⟩ u).setCell ⟨g, 2, none⟩ v).cell? ⟨g, 0, none⟩ = some x ∧ ((w.setCell ⟨g, 1, none⟩ u).setCell ⟨g, 2, none⟩ v).cell? ⟨g, 1, none⟩ = some u ∧ ((w.setCell ⟨g, 1, none⟩ u).setCell ⟨g, 2, none⟩ v).cell? ⟨g, 2, none⟩ = some v := by
  have e1 : (w.setCell ⟨g, 1, none⟩ u).cell? ⟨g, 1, none⟩ = some u := World.cell?_setCell_same _ _ _ h1
  have e2 : (w.setCell ⟨g, 1, none⟩ u).cell? ⟨g, 2, none⟩ = some z := by rw [World.cell?_setCell_other _ _ _ _ (by simp)]; exact h2
  refine ⟨?_, ?_, World.cell?_setCell_same _ _ _ e2⟩
  · rw [World.cell?_setCell_other _ _ _ _ (by simp), World.cell?_setCell_other _ _ _ _ (by simp)]; exact h0
  · rw [World.cell?_setCell_other _ _ _ _ (by simp)]; exact e1
theorem gb_seta {w w' : World} {r : Option Nat} (h : w.grownBy w' r) {a : Addr} (ha : w.heap.size ≤ a.block) (u : Value) : w.grownBy (w'.setCell a u) r :=
  ⟨h.os, h.tape, h.output, by simpa using h.size, fun b hb hr => (Below.heap_setCell w' a u b (by omega)).trans (h.block b hb hr)⟩
theorem Cur.setc {w : World} {g k : Nat} (h : Cur w g k) {a : Addr} (ha : g < a.block) (u : Value) : Cur (w.setCell a u) g k := by
  obtain ⟨i, sd, hi, h⟩ := h
  exact ⟨i, sd, hi, h.keep fun b hb => Below.heap_setCell w a u b (by omega)⟩
theorem below_gb {a w w' : World} {B g : Nat} (h : Below B a w) (hg : w.grownBy w' (some g)) (hB : B ≤ w.heap.size) (hb : B ≤ g) : Below B a w' :=
  h.grown hg hB fun k hk => by injection hk with hk; omega
theorem own_far {w : World} {base g : Nat} {e : TypeId} {size : Nat} {v : Value} {n : Nat} {xs : List Value} (h : w.ownsRow base e size v n xs) (hg : g < base) : v.ownBlock = none ∨ v.ownBlock ≠ some g := by
  cases hv : v.ownBlock with
  | none => exact .inl rfl
  | some k => exact .inr fun e => by injection e with e; have := (h.lt k hv).1; omega
theorem fre_gb {w w' : World} {r : Option Nat} {b : Nat} (h : b < w.heap.size ∧ ∀ i, w.frozen? ⟨b, i, none⟩ = false) (hg : w.grownBy w' r) (hne : some b ≠ r) : b < w'.heap.size ∧ ∀ i, w'.frozen? ⟨b, i, none⟩ = false :=
  ⟨Nat.lt_of_lt_of_le h.1 hg.size, fun i => (hg.frozen_far ⟨b, i, none⟩ h.1 hne).trans (h.2 i)⟩
theorem box2_sets {w : World} {g : Nat} {x y : Value} (h0 : w.cell? ⟨g, 0, none⟩ = some x) (h1 : w.cell? ⟨g, 1, none⟩ = some y) (u v : Value) :
    (w.setCell ⟨g, 0, none⟩ u).cell? ⟨g, 0, none⟩ = some u ∧ (w.setCell ⟨g, 0, none⟩ u).cell? ⟨g, 1, none⟩ = some y ∧
    ((w.setCell ⟨g, 0, none⟩ u).setCell ⟨g, 1, none⟩ v).cell? ⟨g, 0, none⟩ = some u ∧ ((w.setCell ⟨g, 0, none⟩ u).setCell ⟨g, 1, none⟩ v).cell? ⟨g, 1, none⟩ = some v := by
  have e0 : (w.setCell ⟨g, 0, none⟩ u).cell? ⟨g, 0, none⟩ = some u := World.cell?_setCell_same _ _ _ h0
  have e1 : (w.setCell ⟨g, 0, none⟩ u).cell? ⟨g, 1, none⟩ = some y := by rw [World.cell?_setCell_other _ _ _ _ (by simp)]; exact h1
  exact ⟨e0, e1, by rw [World.cell?_setCell_other _ _ _ _ (by simp)]; exact e0, World.cell?_setCell_same _ _ _ e1⟩
theorem box2_other {w : World} {g b : Nat} (h : b ≠ g) (u v : Value) (k : Nat) : ((w.setCell ⟨g, 0, none⟩ u).setCell ⟨g, 1, none⟩ v).cell? ⟨b, k, none⟩ = w.cell? ⟨b, k, none⟩ := by
  rw [World.cell?_setCell_other _ _ _ _ (by simp [h]), World.cell?_setCell_other _ _ _ _ (by simp [h])]
def CodeOk (w : World) (A : Option Addr) (n : Nat) : Prop := 0 < n → ∃ ad : Addr, A = some ad ∧ ad.block < w.heap.size ∧ ∀ j, j < n → ∃ b : Int, 0 ≤ b ∧ b ≤ 255 ∧ w.cell? (ad.add j) = some (.int .u8 b)
theorem CodeOk.below {w w' : World} {A : Option Addr} {n : Nat} (h : CodeOk w A n) (hb : Below w.heap.size w w') : CodeOk w' A n := fun hn => by
  obtain ⟨ad, e, hl, ha⟩ := h hn
  refine ⟨ad, e, Nat.lt_of_lt_of_le hl hb.size, fun j hj => ?_⟩
  obtain ⟨b, b0, b1, hc⟩ := ha j hj
  exact ⟨b, b0, b1, (hb.cell (by rw [block_of_add]; exact hl)).trans hc⟩
theorem cur_new {w : World} {A : Option Addr} {n c g : Nat} {e : TypeId} (h : CodeOk w A n) (hn : n ≤ 65536) (hg : w.heap.size = g) (k : Nat) : Cur (w.alloc (.cells #[.slice A n c, .int .i64 0, .int .u64 0] e)) g k := by
  subst hg
  refine ⟨0, 0, Nat.zero_le _, A, n, c, by simp [go_sem], by simp [go_sem], by simp [go_sem], hn, fun j => by simp [go_sem], fun hp => ?_⟩
  obtain ⟨ad, e, hl, ha⟩ := h hp
  refine ⟨ad, e, hl, fun j hj => ?_⟩
  obtain ⟨b, b0, b1, hc⟩ := ha j hj
  exact ⟨b, b0, b1, (World.cell?_alloc_lt w _ _ (by rw [block_of_add]; exact hl)).trans hc⟩
theorem lit_at {w : World} {xs : Array Value} {e : TypeId} {l : List Int} {H : Nat} (hx : xs = (ints l).toArray) (hH : w.heap.size = H) :
    ∀ j, j < l.length → (w.alloc (.cells xs e)).cell? ((⟨H, 0, none⟩ : Addr).add j) = some (.int .i64 (nth l j)) := by
  subst hx hH
  intro j hj
  have h := ints_at l j hj
  by_cases h0 : j = 0
  · subst h0; simp [go_sem, Addr.add, h]
  · simp [go_sem, Addr.add, h0, h]
theorem gb_row {w W w' : World} {r : Option Nat} {base : Nat} {e : TypeId} {size : Nat} {v : Value} {n : Nat} {xs : List Value} (h : w.grownBy W r) (ho : W.ownsRow base e size v n xs) (hg : W.grownBy w' v.ownBlock) (hb : w.heap.size ≤ base) : w.grownBy w' r :=
  ⟨hg.os.trans h.os, hg.tape.trans h.tape, hg.output.trans h.output, Nat.le_trans h.size hg.size, fun k hk hr => (hg.block k (Nat.lt_of_lt_of_le hk h.size) (fun e => by have := (ho.lt k e.symm).1; omega)).trans (h.block k hk hr)⟩
theorem cur_row {W w' : World} {g k base : Nat} {e : TypeId} {size : Nat} {v : Value} {n : Nat} {xs : List Value} (h : Cur W g k) (ho : W.ownsRow base e size v n xs) (hg : W.grownBy w' v.ownBlock) (hb : g < base) : Cur w' g k :=
  h.grown hg fun b hb' => by have := (ho.lt b hb').1; omega
theorem u64_and255 (a : Int) : 0 ≤ bits .and .u64 a 255 ∧ bits .and .u64 a 255 ≤ 255 := by
  have e : bits .and .u64 a 255 = IntKind.u64.wrap ((BitVec.ofInt 64 a &&& BitVec.ofInt 64 ((255 : Nat) : Int)).toNat : Int) := rfl
  have oB : (BitVec.ofInt 64 ((255 : Nat) : Int)).toNat = 255 := by rw [BitVec.ofInt_natCast, BitVec.toNat_ofNat]
  have h : (BitVec.ofInt 64 a &&& BitVec.ofInt 64 ((255 : Nat) : Int)).toNat ≤ 255 := by rw [BitVec.toNat_and, oB]; exact Nat.and_le_right
  rw [e, IntWalk.u64_in _ (by omega)]
  omega
end Go.Proofs.Ytbeojfhakmbacaa
namespace Go.Proofs.Ytbeojfhakmbacaa
open Go.RowKit
theorem box3_sets {w : World} {g : Nat} {x y z : Value} (h0 : w.cell? ⟨g, 0, none⟩ = some x) (h1 : w.cell? ⟨g, 1, none⟩ = some y) (h2 : w.cell? ⟨g, 2, none⟩ = some z) (u v t : Value) :
    (w.setCell ⟨g, 0, none⟩ u).cell? ⟨g, 1, none⟩ = some y ∧ ((w.setCell ⟨g, 0, none⟩ u).setCell ⟨g, 1, none⟩ v).cell? ⟨g, 2, none⟩ = some z ∧
    (((w.setCell ⟨g, 0, none⟩ u).setCell ⟨g, 1, none⟩ v).setCell ⟨g, 2, none⟩ t).cell? ⟨g, 0, none⟩ = some u ∧ (((w.setCell ⟨g, 0, none⟩ u).setCell ⟨g, 1, none⟩ v).setCell ⟨g, 2, none⟩ t).cell? ⟨g, 1, none⟩ = some v ∧ (((w.setCell ⟨g, 0, none⟩ u).setCell ⟨g, 1, none⟩ v).setCell ⟨g, 2, none⟩ t).cell? ⟨g, 2, none⟩ = some t := by
  obtain ⟨_, e1, e2, e3⟩ := box2_sets h0 h1 u v
  have e4 : ((w.setCell ⟨g, 0, none⟩ u).setCell ⟨g, 1, none⟩ v).cell? ⟨g, 2, none⟩ = some z := by rw [World.cell?_setCell_other _ _ _ _ (by simp), World.cell?_setCell_other _ _ _ _ (by simp)]; exact h2
  exact ⟨e1, e4, by rw [World.cell?_setCell_other _ _ _ _ (by simp)]; exact e2, by rw [World.cell?_setCell_other _ _ _ _ (by simp)]; exact e3, World.cell?_setCell_same _ _ _ e4⟩
theorem box3_other {w : World} {g b : Nat} (h : b ≠ g) (u v t : Value) (k : Nat) : (((w.setCell ⟨g, 0, none⟩ u).setCell ⟨g, 1, none⟩ v).setCell ⟨g, 2, none⟩ t).cell? ⟨b, k, none⟩ = w.cell? ⟨b, k, none⟩ := by
  rw [World.cell?_setCell_other _ _ _ _ (by simp [h])]; exact box2_other h u v k
end Go.Proofs.Ytbeojfhakmbacaa
