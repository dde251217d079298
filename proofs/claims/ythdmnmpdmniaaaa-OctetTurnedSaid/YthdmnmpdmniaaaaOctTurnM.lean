/-
  PLAIN LAWS: turned bits among at most 32 neighbouring ones turn the sum. No program in sight.
-/
import Derived.Test.YthdmnmpdmniaaaaOctMath
namespace Go.Proofs.Ythdmnmpdmniaaaa.OctMath
def xorL (xs ys : List Nat) : List Nat := List.zipWith (fun a b => a ^^^ b) xs ys
/-- One bit turned. -/
def flip (xs : List Nat) (p : Nat) : List Nat := xs.set (p / 8) (xs.getD (p / 8) 0 ^^^ 2 ^ (p % 8))
/-- The bits at, at + 1, .. turned, where the mask says so: the first m of them. -/
def turnL (xs : List Nat) (at_ mask : Nat) : Nat → List Nat
  | 0 => xs
  | m + 1 => if mask.testBit m then flip (turnL xs at_ mask m) (at_ + m) else turnL xs at_ mask m
def turned (mask : Nat) : Nat → Bool
  | 0 => false
  | m + 1 => if mask.testBit m then true else turned mask m
theorem flip_len (xs : List Nat) (p : Nat) : (flip xs p).length = xs.length := by simp [flip]
theorem turnL_len (xs : List Nat) (at_ mask m : Nat) : (turnL xs at_ mask m).length = xs.length := by
  induction m with
  | zero => rfl
  | succ m ih => unfold turnL; split; rw [flip_len, ih]; exact ih
theorem getD_lt {xs : List Nat} (h : ∀ x ∈ xs, x < 256) (k : Nat) : xs.getD k 0 < 256 := by
  rcases Nat.lt_or_ge k xs.length with hk | hk
  · rw [List.getD_eq_getElem?_getD, List.getElem?_eq_getElem hk]; exact h _ (List.getElem_mem hk)
  · rw [List.getD_eq_getElem?_getD, List.getElem?_eq_none hk]; decide
theorem flip_byt {xs : List Nat} (h : ∀ x ∈ xs, x < 256) (p : Nat) : ∀ x ∈ flip xs p, x < 256 := by
  intro x hx
  rcases List.mem_or_eq_of_mem_set hx with h1 | h1
  · exact h x h1
  · rw [h1]
    refine Nat.xor_lt_two_pow (n := 8) (getD_lt h _) ?_
    exact Nat.pow_lt_pow_right (by omega) (Nat.mod_lt _ (by omega))
theorem turnL_byt {xs : List Nat} (h : ∀ x ∈ xs, x < 256) (at_ mask m : Nat) : ∀ x ∈ turnL xs at_ mask m, x < 256 := by
  induction m with
  | zero => exact h
  | succ m ih => unfold turnL; split; exact flip_byt ih _; exact ih
def dbit (D : List Nat) (p : Nat) : Bool := (D.getD (p / 8) 0).testBit (p % 8)
theorem flip_bit (D : List Nat) (p q : Nat) (hp : p < 8 * D.length) : dbit (flip D p) q = (dbit D q ^^ decide (q = p)) := by
  unfold dbit flip
  have hl : p / 8 < D.length := by omega
  by_cases h : q / 8 = p / 8
  · rw [h, List.getD_eq_getElem?_getD, List.getElem?_set_self hl]
    show ((D.getD (p / 8) 0) ^^^ 2 ^ (p % 8)).testBit (q % 8) = _
    rw [Nat.testBit_xor, Nat.testBit_two_pow]
    congr 1
    by_cases e : q = p
    · subst e; simp
    · have : ¬ p % 8 = q % 8 := by omega
      simp [this, e]
  · rw [List.getD_eq_getElem?_getD, List.getElem?_set_ne (fun e => h e.symm), ← List.getD_eq_getElem?_getD]
    have : ¬ q = p := fun e => h (by rw [e])
    simp [this]
theorem turn_bit (n at_ mask : Nat) (m : Nat) (hm : at_ + m ≤ 8 * n) (q : Nat) :
    dbit (turnL (List.replicate n 0) at_ mask m) q = (decide (at_ ≤ q) && decide (q < at_ + m) && mask.testBit (q - at_)) := by
  induction m with
  | zero =>
    have e : dbit (turnL (List.replicate n 0) at_ mask 0) q = false := by
      unfold dbit turnL
      have : (List.replicate n 0).getD (q / 8) 0 = 0 := by
        rw [List.getD_eq_getElem?_getD, List.getElem?_replicate]; split <;> rfl
      rw [this]; simp
    rw [e]
    have h : (decide (at_ ≤ q) && decide (q < at_ + 0)) = false := by
      rw [Bool.and_eq_false_iff, decide_eq_false_iff_not, decide_eq_false_iff_not]; omega
    rw [h, Bool.false_and]
  | succ m ih =>
    have ih := ih (by omega)
    unfold turnL
    by_cases hb : mask.testBit m
    · rw [if_pos hb, flip_bit _ _ _ (by rw [turnL_len]; simp; omega), ih]
      by_cases e : q = at_ + m
      · subst e
        have h1 : at_ + m - at_ = m := by omega
        simp [h1, hb]
      · by_cases h2 : at_ ≤ q
        · by_cases h3 : q < at_ + m
          · have h4 : q < at_ + (m + 1) := by omega
            simp [e, h2, h3, h4]
          · have h4 : ¬ q < at_ + (m + 1) := by omega
            simp [e, h3, h4]
        · simp [e, h2]
    · rw [if_neg hb, ih]
      by_cases e : q = at_ + m
      · subst e
        have h1 : at_ + m - at_ = m := by omega
        have hb' : mask.testBit m = false := by simpa using hb
        simp [h1, hb']
      · by_cases h2 : at_ ≤ q
        · by_cases h3 : q < at_ + m
          · have h4 : q < at_ + (m + 1) := by omega
            simp [h2, h3, h4]
          · have h4 : ¬ q < at_ + (m + 1) := by omega
            simp [h3, h4]
        · simp [h2]
/-- All bits of what was turned: noughts, the window, noughts. -/
theorem turn_bits (n at_ mask m : Nat) (hm : at_ + m ≤ 8 * n) :
    bitsB (turnL (List.replicate n 0) at_ mask m) = List.replicate at_ false ++ bitsOf m (mask % 2 ^ m) ++ List.replicate (8 * n - at_ - m) false := by
  apply List.ext_getElem?
  intro q
  have hl : (turnL (List.replicate n 0) at_ mask m).length = n := by rw [turnL_len]; simp
  by_cases hq : q < 8 * n
  · rw [bitsB_get _ q (by rw [hl]; exact hq)]
    have h1 := turn_bit n at_ mask m hm q
    unfold dbit at h1
    rw [h1]
    by_cases h2 : q < at_
    · rw [List.append_assoc, List.getElem?_append_left (by simpa using h2), List.getElem?_replicate, if_pos h2]
      have : ¬ at_ ≤ q := by omega
      simp [this]
    · by_cases h3 : q < at_ + m
      · rw [List.getElem?_append_left (by rw [List.length_append, bitsOf_len]; simp; omega), List.getElem?_append_right (by simp; omega)]
        unfold bitsOf
        rw [List.getElem?_map, List.length_replicate, List.getElem?_range (by omega)]
        have h4 : at_ ≤ q := by omega
        have h5 : q - at_ < m := by omega
        simp [h3, h4, h5, Nat.testBit_mod_two_pow]
      · rw [List.getElem?_append_right (by rw [List.length_append, bitsOf_len]; simp; omega), List.getElem?_replicate]
        rw [if_pos (by rw [List.length_append, bitsOf_len]; simp; omega)]
        simp [h3]
  · rw [List.getElem?_eq_none (by rw [bitsB_len, hl]; omega), List.getElem?_eq_none (by simp [bitsOf_len]; omega)]
theorem xorL_len (xs ys : List Nat) (h : xs.length = ys.length) : (xorL xs ys).length = xs.length := by simp [xorL, h]
theorem flip_xor (xs D : List Nat) (p : Nat) (h : xs.length = D.length) : flip (xorL xs D) p = xorL xs (flip D p) := by
  unfold flip xorL
  apply List.ext_getElem?
  intro i
  by_cases e : p / 8 = i
  · subst e
    by_cases hl : p / 8 < D.length
    · rw [List.getElem?_set_self (by simp; omega), List.getElem?_zipWith, List.getElem?_set_self hl, List.getElem?_eq_getElem (show p / 8 < xs.length by omega)]
      simp only [List.getD_eq_getElem?_getD, List.getElem?_zipWith, List.getElem?_eq_getElem (show p / 8 < xs.length by omega), List.getElem?_eq_getElem hl]
      simp [Nat.xor_assoc]
    · rw [List.getElem?_eq_none (by simp; omega), List.getElem?_eq_none (by simp; omega)]
  · rw [List.getElem?_set_ne e, List.getElem?_zipWith, List.getElem?_zipWith, List.getElem?_set_ne e]
theorem xorL_zero (xs : List Nat) : xorL xs (List.replicate xs.length 0) = xs := by
  unfold xorL
  induction xs with
  | nil => rfl
  | cons x xs ih => simp [List.replicate_succ, ih]
theorem turnL_xor (xs : List Nat) (at_ mask m : Nat) : turnL xs at_ mask m = xorL xs (turnL (List.replicate xs.length 0) at_ mask m) := by
  induction m with
  | zero => exact (xorL_zero xs).symm
  | succ m ih =>
    unfold turnL
    split
    · rw [ih, flip_xor _ _ _ (by rw [turnL_len]; simp)]
    · exact ih
theorem turned_iff (mask m : Nat) : turned mask m = true ↔ mask % 2 ^ m ≠ 0 := by
  induction m with
  | zero => simp [turned, Nat.mod_one]
  | succ m ih =>
    unfold turned
    by_cases hb : mask.testBit m
    · rw [if_pos hb]
      simp only [true_iff]
      intro e
      have := congrArg (fun z => Nat.testBit z m) e
      simp [Nat.testBit_mod_two_pow, hb] at this
    · rw [if_neg hb, ih]
      have : mask % 2 ^ (m + 1) = mask % 2 ^ m := by
        apply Nat.eq_of_testBit_eq
        intro i
        rw [Nat.testBit_mod_two_pow, Nat.testBit_mod_two_pow]
        by_cases e : i = m
        · subst e
          have hb' : mask.testBit i = false := by simpa using hb
          simp [hb']
        · have : (i < m + 1) = (i < m) := by simp; omega
          simp [this]
      rw [this]
theorem turnL_none (xs : List Nat) (at_ mask m : Nat) (h : turned mask m = false) : turnL xs at_ mask m = xs := by
  induction m with
  | zero => rfl
  | succ m ih =>
    unfold turned at h
    unfold turnL
    by_cases hb : mask.testBit m
    · rw [if_pos hb] at h; cases h
    · rw [if_neg hb] at h ⊢; exact ih h
/-- The sum is another one just where a bit was turned. -/
theorem crc_turned (xs : List Nat) (at_ mask m : Nat) (hm : at_ + m ≤ 8 * xs.length) (h32 : m ≤ 32) :
    (crc xs ≠ crc (turnL xs at_ mask m)) ↔ turned mask m = true := by
  constructor
  · intro h
    rcases ht : turned mask m with _ | _
    · exact absurd (by rw [turnL_none _ _ _ _ ht]) h
    · rfl
  · intro ht h
    have hl : (turnL (List.replicate xs.length 0) at_ mask m).length = xs.length := by rw [turnL_len]; simp
    have hz : ∀ x ∈ List.replicate xs.length 0, x < 256 := by intro x hx'; have := List.eq_of_mem_replicate hx'; omega
    unfold crc at h
    have h2 : crcS 4294967295 xs = crcS 4294967295 (turnL xs at_ mask m) := by
      have := congrArg (fun z => 4294967295 ^^^ z) h
      simpa [← Nat.xor_assoc, Nat.xor_self] using this
    rw [turnL_xor] at h2
    have h3 := crcS_xor xs (turnL (List.replicate xs.length 0) at_ mask m) 4294967295 0 hl.symm
    rw [Nat.xor_zero] at h3
    unfold xorL at h2
    rw [h3] at h2
    have h4 : crcS 0 (turnL (List.replicate xs.length 0) at_ mask m) = 0 := by
      have := congrArg (fun z => crcS 4294967295 xs ^^^ z) h2
      simpa [← Nat.xor_assoc, Nat.xor_self] using this.symm
    rw [crcS_bits _ _ (turnL_byt hz at_ mask m), turn_bits _ _ _ _ hm] at h4
    exact burst at_ m _ (mask % 2 ^ m) h32 (Nat.mod_lt _ (Nat.pow_pos (by omega))) ((turned_iff mask m).1 ht) h4
end Go.Proofs.Ythdmnmpdmniaaaa.OctMath
