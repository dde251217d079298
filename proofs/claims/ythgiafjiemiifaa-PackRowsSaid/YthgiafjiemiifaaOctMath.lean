/-
  PLAIN LAWS of the sum CRC-32C: one step a bit, linear over xor; by the table; a turned burst of at most 32 bits turns the sum. No program in sight.
-/
namespace Go.Proofs.Ythgiafjiemiifaa.OctMath
/-- The polynomial. -/
def PL : Nat := 2197175160
def stp (c : Nat) : Nat := if c % 2 = 1 then c / 2 ^^^ PL else c / 2
def stpn : Nat → Nat → Nat
  | 0, c => c
  | k + 1, c => stp (stpn k c)
def crcS (c : Nat) (xs : List Nat) : Nat := xs.foldl (fun c x => stpn 8 (c ^^^ x)) c
def crc (xs : List Nat) : Nat := 4294967295 ^^^ crcS 4294967295 xs
theorem xor_lt32 {a b : Nat} (ha : a < 4294967296) (hb : b < 4294967296) : a ^^^ b < 4294967296 := Nat.xor_lt_two_pow (n := 32) ha hb
theorem stp_lt {c : Nat} (h : c < 4294967296) : stp c < 4294967296 := by
  unfold stp; split
  · exact xor_lt32 (by omega) (by decide)
  · omega
theorem stpn_lt (k : Nat) {c : Nat} (h : c < 4294967296) : stpn k c < 4294967296 := by
  induction k with
  | zero => exact h
  | succ k ih => exact stp_lt ih
theorem crcS_lt (xs : List Nat) : ∀ {c : Nat}, c < 4294967296 → (∀ x ∈ xs, x < 256) → crcS c xs < 4294967296 := by
  induction xs with
  | nil => intro c h _; exact h
  | cons x xs ih =>
    intro c h hx
    exact ih (stpn_lt 8 (xor_lt32 h (by have := hx x (List.mem_cons_self ..); omega))) (fun y hy => hx y (List.mem_cons_of_mem _ hy))
theorem xor_mod2 (b c : Nat) : (b ^^^ c) % 2 = (b % 2 + c % 2) % 2 := by
  have := Nat.xor_mod_two_pow (a := b) (b := c) (n := 1)
  simp at this
  rw [this]
  rcases Nat.mod_two_eq_zero_or_one b with h | h <;> rcases Nat.mod_two_eq_zero_or_one c with h' | h' <;> simp [h, h']
theorem xor_div2 (b c : Nat) : (b ^^^ c) / 2 = (b / 2) ^^^ (c / 2) := Nat.xor_div_two
theorem xx (r s a : Nat) : (r ^^^ a) ^^^ (s ^^^ a) = r ^^^ s := by
  rw [Nat.xor_assoc, Nat.xor_comm s a, ← Nat.xor_assoc a a s, Nat.xor_self, Nat.zero_xor]
theorem x4 (a b c d : Nat) : (a ^^^ b) ^^^ (c ^^^ d) = (a ^^^ c) ^^^ (b ^^^ d) := by
  rw [Nat.xor_assoc, Nat.xor_assoc, ← Nat.xor_assoc b c d, Nat.xor_comm b c, Nat.xor_assoc c b d]
theorem stp_xor (a b : Nat) : stp (a ^^^ b) = stp a ^^^ stp b := by
  unfold stp
  rw [xor_mod2, xor_div2]
  rcases Nat.mod_two_eq_zero_or_one a with h | h <;> rcases Nat.mod_two_eq_zero_or_one b with h' | h' <;> simp [h, h']
  · rw [Nat.xor_assoc]
  · rw [Nat.xor_assoc, Nat.xor_comm (b / 2), ← Nat.xor_assoc]
  · rw [xx]
theorem stpn_xor (k a b : Nat) : stpn k (a ^^^ b) = stpn k a ^^^ stpn k b := by
  induction k with
  | zero => rfl
  | succ k ih => show stp (stpn k (a ^^^ b)) = _; rw [ih, stp_xor]; rfl
theorem crcS_xor : ∀ (xs ys : List Nat) (c d : Nat), xs.length = ys.length → crcS (c ^^^ d) (List.zipWith (fun a b => a ^^^ b) xs ys) = crcS c xs ^^^ crcS d ys := by
  intro xs
  induction xs with
  | nil => intro ys c d h; obtain rfl : ys = [] := List.eq_nil_of_length_eq_zero h.symm; rfl
  | cons x xs ih =>
    intro ys c d h
    cases ys with
    | nil => simp at h
    | cons y ys =>
      have h' : xs.length = ys.length := by simpa using h
      show crcS (stpn 8 ((c ^^^ d) ^^^ (x ^^^ y))) _ = crcS (stpn 8 (c ^^^ x)) xs ^^^ crcS (stpn 8 (d ^^^ y)) ys
      rw [x4, stpn_xor]
      exact ih ys _ _ h'
/-- The sums of three rows of one length make that of their sum. -/
theorem crc_even (xs ys zs : List Nat) (h1 : xs.length = ys.length) (h2 : xs.length = zs.length) :
    crc (List.zipWith (fun a b => a ^^^ b) (List.zipWith (fun a b => a ^^^ b) xs ys) zs) = (crc xs ^^^ crc ys) ^^^ crc zs := by
  unfold crc
  have e : (4294967295 : Nat) = (4294967295 ^^^ 4294967295) ^^^ 4294967295 := by rw [Nat.xor_self, Nat.zero_xor]
  conv => lhs; rw [show crcS 4294967295 = crcS ((4294967295 ^^^ 4294967295) ^^^ 4294967295) from by rw [← e]]
  rw [crcS_xor _ _ _ _ (by simp [← h1, h2]), crcS_xor _ _ _ _ h1]
  generalize crcS 4294967295 xs = A
  generalize crcS 4294967295 ys = B
  generalize crcS 4294967295 zs = C
  rw [x4 4294967295 A 4294967295 B, Nat.xor_self, Nat.zero_xor, ← Nat.xor_assoc, Nat.xor_comm _ (A ^^^ B), Nat.xor_assoc (A ^^^ B)]
/-- By the table. -/
theorem stpn_mul (k v : Nat) : stpn k (v * 2 ^ k) = v := by
  induction k generalizing v with
  | zero => simp [stpn]
  | succ k ih =>
    show stp (stpn k (v * 2 ^ (k + 1))) = v
    rw [show v * 2 ^ (k + 1) = (v * 2) * 2 ^ k from by rw [Nat.pow_succ]; rw [Nat.mul_assoc, Nat.mul_comm 2]]
    rw [ih]
    unfold stp
    rw [if_neg (by omega)]
    omega
theorem split8 (v : Nat) : v = (v / 256 * 256) ^^^ (v % 256) := by
  apply Nat.eq_of_testBit_eq
  intro i
  rw [Nat.testBit_xor, show (256 : Nat) = 2 ^ 8 from rfl, Nat.testBit_mul_two_pow, Nat.testBit_mod_two_pow, Nat.testBit_div_two_pow]
  by_cases h : 8 ≤ i
  · simp [h, show ¬ i < 8 from by omega]
  · simp [h, show i < 8 from by omega]
theorem by_table {c x : Nat} (hx : x < 256) : c / 256 ^^^ stpn 8 ((c % 256) ^^^ x) = stpn 8 (c ^^^ x) := by
  have h1 : (c ^^^ x) / 256 = c / 256 := by
    have := Nat.xor_div_two_pow (a := c) (b := x) (n := 8)
    rw [show (256 : Nat) = 2 ^ 8 from rfl, this, Nat.div_eq_of_lt (show x < 2 ^ 8 from hx), Nat.xor_zero]
  have h2 : (c ^^^ x) % 256 = (c % 256) ^^^ x := by
    have := Nat.xor_mod_two_pow (a := c) (b := x) (n := 8)
    rw [show (256 : Nat) = 2 ^ 8 from rfl, this, Nat.mod_eq_of_lt (show x < 2 ^ 8 from hx)]
  conv => rhs; rw [split8 (c ^^^ x), stpn_xor, h1, h2, show c / 256 * 256 = c / 256 * 2 ^ 8 from rfl, stpn_mul]
theorem crcS_snoc (c : Nat) (xs : List Nat) (x : Nat) : crcS c (xs ++ [x]) = stpn 8 (crcS c xs ^^^ x) := by simp [crcS]
/-- The steps never send anything but nought to nought. -/
theorem stp_ne {c : Nat} (h : c < 4294967296) (h0 : c ≠ 0) : stp c ≠ 0 := by
  unfold stp; split
  · intro e
    have : c / 2 = PL := by
      have h1 : (c / 2 ^^^ PL) ^^^ PL = 0 ^^^ PL := by rw [e]
      rwa [Nat.xor_assoc, Nat.xor_self, Nat.xor_zero, Nat.zero_xor] at h1
    unfold PL at this
    omega
  · omega
theorem stpn_ne (k : Nat) {c : Nat} (h : c < 4294967296) (h0 : c ≠ 0) : stpn k c ≠ 0 := by
  induction k with
  | zero => exact h0
  | succ k ih => exact stp_ne (stpn_lt k h) ih
/-- Bit by bit: a row of bits, the lowest first. -/
def bitS (c : Nat) (bs : List Bool) : Nat := bs.foldl (fun c b => stp (c ^^^ b.toNat)) c
def bitsOf (k x : Nat) : List Bool := (List.range k).map fun i => x.testBit i
theorem bitS_append (c : Nat) (as bs : List Bool) : bitS c (as ++ bs) = bitS (bitS c as) bs := by simp [bitS]
theorem stpn_stp (k c : Nat) : stpn k (stp c) = stp (stpn k c) := by
  induction k with
  | zero => rfl
  | succ k ih => show stp (stpn k (stp c)) = _; rw [ih]; rfl
theorem bitsOf_succ (k x : Nat) : bitsOf (k + 1) x = x.testBit 0 :: bitsOf k (x / 2) := by
  unfold bitsOf
  rw [List.range_succ_eq_map, List.map_cons, List.map_map]
  congr 1
  apply List.map_congr_left
  intro i _
  simp [Nat.testBit_succ]
theorem bitS_word (k : Nat) : ∀ c x : Nat, x < 2 ^ k → bitS c (bitsOf k x) = stpn k (c ^^^ x) := by
  induction k with
  | zero => intro c x h; obtain rfl : x = 0 := by simpa using h
            simp [bitS, bitsOf, stpn]
  | succ k ih =>
    intro c x h
    rw [bitsOf_succ]
    show bitS (stp (c ^^^ (x.testBit 0).toNat)) (bitsOf k (x / 2)) = stp (stpn k (c ^^^ x))
    rw [ih _ _ (by rw [Nat.pow_succ] at h; omega), ← stpn_stp]
    congr 1
    have e : x = (x.testBit 0).toNat ^^^ (x / 2 * 2) := by
      apply Nat.eq_of_testBit_eq
      intro i
      rw [Nat.testBit_xor, show x / 2 * 2 = x / 2 ^ 1 * 2 ^ 1 from rfl, Nat.testBit_mul_two_pow, Nat.testBit_div_two_pow]
      cases i with
      | zero => rcases Nat.mod_two_eq_zero_or_one x with h | h <;> simp [Nat.testBit_zero, h]
      | succ i =>
        have : ((x.testBit 0).toNat).testBit (i + 1) = false := by cases x.testBit 0 <;> simp [Nat.testBit_succ]
        rw [this]
        simp
    conv => rhs; rw [e, ← Nat.xor_assoc, stp_xor]
    congr 1
    unfold stp
    rw [if_neg (by omega)]
    omega
theorem bitS_zeros (c : Nat) (k : Nat) : bitS c (List.replicate k false) = stpn k c := by
  induction k generalizing c with
  | zero => rfl
  | succ k ih =>
    rw [List.replicate_succ]
    show bitS (stp (c ^^^ 0)) _ = _
    rw [ih, Nat.xor_zero, stpn_stp]; rfl
theorem stpn_zero (k : Nat) : stpn k 0 = 0 := by
  induction k with
  | zero => rfl
  | succ k ih => show stp (stpn k 0) = 0; rw [ih]; rfl
/-- A burst: noughts, a window of at most 32 bits that is not nought, noughts. -/
theorem burst (p k q m : Nat) (hk : k ≤ 32) (hm : m < 2 ^ k) (h0 : m ≠ 0) : bitS 0 (List.replicate p false ++ bitsOf k m ++ List.replicate q false) ≠ 0 := by
  have hm32 : m < 4294967296 := Nat.lt_of_lt_of_le hm (Nat.pow_le_pow_right (n := 2) (by omega) hk)
  rw [bitS_append, bitS_append, bitS_zeros 0 p, stpn_zero, bitS_word _ _ _ hm, bitS_zeros, Nat.zero_xor]
  exact stpn_ne q (stpn_lt k hm32) (stpn_ne k hm32 h0)
/-- All bits of bytes. -/
def bitsB (xs : List Nat) : List Bool := xs.flatMap (bitsOf 8)
theorem crcS_bits (xs : List Nat) : ∀ c : Nat, (∀ x ∈ xs, x < 256) → crcS c xs = bitS c (bitsB xs) := by
  induction xs with
  | nil => intro c _; rfl
  | cons x xs ih =>
    intro c h
    show crcS (stpn 8 (c ^^^ x)) xs = bitS c (bitsOf 8 x ++ bitsB xs)
    rw [bitS_append, bitS_word 8 c x (h x (List.mem_cons_self ..))]
    exact ih _ (fun y hy => h y (List.mem_cons_of_mem _ hy))
theorem bitsOf_len (k x : Nat) : (bitsOf k x).length = k := by simp [bitsOf]
theorem bitsB_len (xs : List Nat) : (bitsB xs).length = 8 * xs.length := by
  induction xs with
  | nil => rfl
  | cons x xs ih => show (bitsOf 8 x ++ bitsB xs).length = _; rw [List.length_append, ih, bitsOf_len, List.length_cons]; omega
theorem bitsB_get (xs : List Nat) : ∀ i, i < 8 * xs.length → (bitsB xs)[i]? = some ((xs.getD (i / 8) 0).testBit (i % 8)) := by
  induction xs with
  | nil => intro i h; simp at h
  | cons x xs ih =>
    intro i h
    show (bitsOf 8 x ++ bitsB xs)[i]? = _
    rcases Nat.lt_or_ge i 8 with h8 | h8
    · rw [List.getElem?_append_left (by rw [bitsOf_len]; exact h8)]
      unfold bitsOf
      rw [List.getElem?_map, List.getElem?_range h8, Nat.div_eq_of_lt h8, Nat.mod_eq_of_lt h8]
      rfl
    · rw [List.getElem?_append_right (by rw [bitsOf_len]; exact h8), bitsOf_len, ih (i - 8) (by rw [List.length_cons] at h; omega)]
      rw [show i / 8 = (i - 8) / 8 + 1 from by omega, show (i - 8) % 8 = i % 8 from by omega]
      rfl
/-! ### Numbers: seven bits a byte -/
def putN (n : Nat) : List Nat := if h : n < 128 then [n] else (n % 128 + 128) :: putN (n / 128)
termination_by n
decreasing_by omega
theorem putN_small {n : Nat} (h : n < 128) : putN n = [n] := by rw [putN, dif_pos h]
theorem putN_big {n : Nat} (h : ¬ n < 128) : putN n = (n % 128 + 128) :: putN (n / 128) := by rw [putN, dif_neg h]
theorem putN_byt (n : Nat) : ∀ x ∈ putN n, x < 256 := by
  induction n using Nat.strongRecOn with
  | _ n ih =>
    by_cases h : n < 128
    · rw [putN_small h]; intro x hx; simp at hx; omega
    · rw [putN_big h]
      intro x hx
      rcases List.mem_cons.1 hx with rfl | hx
      · omega
      · exact ih (n / 128) (by omega) x hx
theorem putN_len (k : Nat) : ∀ n, n < 128 ^ (k + 1) → (putN n).length ≤ k + 1 := by
  induction k with
  | zero => intro n h; rw [putN_small (by simpa using h)]; simp
  | succ k ih =>
    intro n h
    by_cases h1 : n < 128
    · rw [putN_small h1]; simp
    · rw [putN_big h1, List.length_cons]
      have := ih (n / 128) (by rw [Nat.pow_succ] at h; exact (Nat.div_lt_iff_lt_mul (by omega)).2 h)
      omega
theorem putN_pos (n : Nat) : 0 < (putN n).length := by
  by_cases h : n < 128
  · rw [putN_small h]; simp
  · rw [putN_big h]; simp
theorem putN_len10 {n : Nat} (h : n < 18446744073709551616) : (putN n).length ≤ 10 := putN_len 9 n (Nat.lt_of_lt_of_le h (by decide))
/-- A number with a sign. -/
def zz (n : Int) : Nat := if 0 ≤ n then (2 * n).toNat else (-2 * n - 1).toNat
/-- Reading: place, rest, what was read so far; answers the number, how many bytes, the error. -/
def rdF : List Nat → Nat → Nat → Nat × Nat × Nat
  | [], _, _ => (0, 0, 40)
  | c :: cs, i, acc =>
    if (i = 9 ∧ 1 < c) ∨ (0 < i ∧ c = 0) then (0, 0, 41)
    else if c < 128 then (acc + c % 128 * 128 ^ i, i + 1, 0)
    else rdF cs (i + 1) (acc + c % 128 * 128 ^ i)
/-- What Number answers: the number, the place behind it, the error. -/
def rdN (bs : List Nat) (at_ : Int) : Nat × Int × Nat :=
  if at_ < 0 ∨ (bs.length : Int) < at_ then (0, 0, 2)
  else
    let r := rdF (bs.drop at_.toNat) 0 0
    if r.2.2 = 0 then (r.1, at_ + r.2.1, 0) else (0, 0, r.2.2)
/-- The number with a sign that a number writes. -/
def unz (n : Nat) : Int := if n % 2 = 0 then (n / 2 : Nat) else -((n / 2 : Nat) : Int) - 1
/-- What Bytes answers. -/
def rdB (bs : List Nat) (at_ most : Int) : List Nat × Int × Nat :=
  let r := rdN bs at_
  if r.2.2 ≠ 0 then ([], 0, r.2.2)
  else if most < 0 ∨ most < r.1 ∨ (bs.length : Int) - r.2.1 < r.1 then ([], 0, 40)
  else ((bs.drop r.2.1.toNat).take r.1, r.2.1 + r.1, 0)
theorem rdF_lt (cs : List Nat) : ∀ i acc, i ≤ 9 → acc < 128 ^ i → (∀ x ∈ cs, x < 256) → (rdF cs i acc).1 < 18446744073709551616 ∧ (rdF cs i acc).2.1 ≤ i + cs.length := by
  induction cs with
  | nil => intro i acc _ _ _; simp [rdF]
  | cons c cs ih =>
    intro i acc hi ha hx
    rw [rdF]
    by_cases hbad : (i = 9 ∧ 1 < c) ∨ (0 < i ∧ c = 0)
    · rw [if_pos hbad]; simp
    · rw [if_neg hbad]
      have hd : c % 128 < 128 := by omega
      have hm : c % 128 * 128 ^ i ≤ 127 * 128 ^ i := Nat.mul_le_mul_right _ (by omega)
      have hp : (128 : Nat) ^ (i + 1) = 128 ^ i * 128 := Nat.pow_succ ..
      by_cases hlo : c < 128
      · rw [if_pos hlo]
        constructor
        · show acc + c % 128 * 128 ^ i < _
          rcases Nat.lt_or_ge i 9 with h | h
          · have h1 : 128 ^ i ≤ 128 ^ 8 := Nat.pow_le_pow_right (by omega) (by omega)
            have h4 : (128 : Nat) ^ 8 = 72057594037927936 := by decide
            omega
          · obtain rfl : i = 9 := by omega
            have h4 : (128 : Nat) ^ 9 = 9223372036854775808 := by decide
            have h2 : c % 128 * 128 ^ 9 ≤ 1 * 128 ^ 9 := Nat.mul_le_mul_right _ (by omega)
            omega
        · show i + 1 ≤ _
          rw [List.length_cons]; omega
      · rw [if_neg hlo]
        have h9 : i < 9 := by
          rcases Nat.lt_or_ge i 9 with h | h
          · exact h
          · exact absurd (.inl ⟨by omega, by omega⟩) hbad
        have := ih (i + 1) (acc + c % 128 * 128 ^ i) (by omega) (by omega) (fun y hy => hx y (List.mem_cons_of_mem _ hy))
        rw [List.length_cons]
        exact ⟨this.1, by omega⟩
theorem rdN_lt (bs : List Nat) (at_ : Int) (h : ∀ x ∈ bs, x < 256) : (rdN bs at_).1 < 18446744073709551616 ∧ 0 ≤ (rdN bs at_).2.1 ∧ (rdN bs at_).2.1 ≤ bs.length := by
  unfold rdN
  split
  · exact ⟨by simp, by simp, by simp⟩
  · rename_i hb
    have h1 := rdF_lt (bs.drop at_.toNat) 0 0 (by omega) (by decide) (fun x hx => h x (List.mem_of_mem_drop hx))
    rw [List.length_drop] at h1
    simp only
    split
    · exact ⟨h1.1, by simp; omega, by simp; omega⟩
    · exact ⟨by simp, by simp, by simp⟩
end Go.Proofs.Ythgiafjiemiifaa.OctMath
