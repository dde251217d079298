/-
  PLAIN LAWS of the field of 256 elements: products, powers, logarithms. No program in sight.
-/
namespace Go.Proofs.Ytebpaafofombaaa.GfMath

def dbl (a : Nat) : Nat := if 128 ≤ a then (a * 2 % 256) ^^^ 29 else a * 2
def mulF : Nat → Nat → Nat → Nat → Nat
  | 0, r, _, _ => r
  | n + 1, r, a, b => mulF n (if b % 2 = 1 then r ^^^ a else r) (dbl a) (b / 2)
def gmul (a b : Nat) : Nat := mulF 8 0 a b

theorem xor_lt {a b : Nat} (ha : a < 256) (hb : b < 256) : a ^^^ b < 256 := Nat.xor_lt_two_pow (n := 8) ha hb
theorem dbl_lt {a : Nat} (ha : a < 256) : dbl a < 256 := by
  unfold dbl; split
  · exact xor_lt (Nat.mod_lt _ (by omega)) (by omega)
  · omega
theorem mulF_lt (n : Nat) : ∀ {r a b : Nat}, r < 256 → a < 256 → mulF n r a b < 256 := by
  induction n with
  | zero => intro r a b hr _; exact hr
  | succ n ih =>
    intro r a b hr ha
    unfold mulF
    refine ih ?_ (dbl_lt ha)
    split
    · exact xor_lt hr ha
    · exact hr
theorem gmul_lt {a b : Nat} (ha : a < 256) : gmul a b < 256 := mulF_lt 8 (by omega) ha
theorem mulF_zero (n : Nat) : ∀ {r a : Nat}, mulF n r a 0 = r := by
  induction n with
  | zero => intros; rfl
  | succ n ih => intro r a; unfold mulF; rw [if_neg (by omega)]; exact ih
theorem gmul_zero (a : Nat) : gmul a 0 = 0 := mulF_zero 8

theorem xor_mod2 (b c : Nat) : (b ^^^ c) % 2 = (b % 2 + c % 2) % 2 := by
  have := Nat.xor_mod_two_pow (a := b) (b := c) (n := 1)
  simp at this
  rw [this]
  rcases Nat.mod_two_eq_zero_or_one b with h | h <;> rcases Nat.mod_two_eq_zero_or_one c with h' | h' <;> simp [h, h']
theorem xor_div2 (b c : Nat) : (b ^^^ c) / 2 = (b / 2) ^^^ (c / 2) := Nat.xor_div_two

theorem xx (r s a : Nat) : (r ^^^ a) ^^^ (s ^^^ a) = r ^^^ s := by
  rw [Nat.xor_assoc, Nat.xor_comm s a, ← Nat.xor_assoc a a s, Nat.xor_self, Nat.zero_xor]
theorem mulF_xor (n : Nat) : ∀ {r s a b c : Nat}, mulF n (r ^^^ s) a (b ^^^ c) = mulF n r a b ^^^ mulF n s a c := by
  induction n with
  | zero => intros; rfl
  | succ n ih =>
    intro r s a b c
    unfold mulF
    rw [← ih, xor_mod2, xor_div2]
    congr 1
    rcases Nat.mod_two_eq_zero_or_one b with h | h <;> rcases Nat.mod_two_eq_zero_or_one c with h' | h' <;> simp [h, h']
    · rw [Nat.xor_assoc]
    · rw [Nat.xor_assoc, Nat.xor_comm s a, ← Nat.xor_assoc]
    · rw [xx]
theorem gmul_xor (a b c : Nat) : gmul a (b ^^^ c) = gmul a b ^^^ gmul a c := by
  have := mulF_xor 8 (r := 0) (s := 0) (a := a) (b := b) (c := c)
  simpa [gmul] using this

def allB (n : Nat) (f : Nat → Bool) : Bool := Nat.rec true (fun k b => b && f k) n
theorem of_allB {n : Nat} {f : Nat → Bool} (h : allB n f = true) : ∀ k, k < n → f k = true := by
  induction n with
  | zero => intro k hk; omega
  | succ n ih =>
    have h : (allB n f && f n) = true := h
    rw [Bool.and_eq_true] at h
    intro k hk
    rcases Nat.lt_or_ge k n with hlt | hge
    · exact ih h.1 k hlt
    · obtain rfl : k = n := by omega
      exact h.2

theorem add_pow_xor (n x : Nat) (h : x < 2 ^ n) : 2 ^ n + x = 2 ^ n ^^^ x := by
  apply Nat.eq_of_testBit_eq
  intro i
  rw [Nat.testBit_xor, Nat.testBit_two_pow]
  by_cases hi : i = n
  · subst hi
    rw [Nat.testBit_two_pow_add_eq, Nat.testBit_lt_two_pow h]; simp
  · rcases Nat.lt_or_ge i n with hlt | hge
    · rw [Nat.testBit_two_pow_add_gt hlt]
      have : (decide (n = i)) = false := by simp; omega
      rw [this]; simp
    · have hb : 2 ^ n + x < 2 ^ i := by
        have : 2 ^ (n + 1) ≤ 2 ^ i := Nat.pow_le_pow_right (by omega) (by omega)
        rw [Nat.pow_succ] at this; omega
      rw [Nat.testBit_lt_two_pow hb, Nat.testBit_lt_two_pow (Nat.lt_trans h (Nat.pow_lt_pow_right (by omega) (by omega)))]
      have : (decide (n = i)) = false := by simp; omega
      rw [this]; rfl
/-- What holds of 0 and the powers of two, and goes on over xor, holds of all. -/
theorem bits_ind {P : Nat → Prop} (n : Nat) (h0 : P 0) (hp : ∀ i, i < n → P (2 ^ i)) (hx : ∀ b c, b < 2 ^ n → c < 2 ^ n → P b → P c → P (b ^^^ c)) : ∀ m, m ≤ n → ∀ b, b < 2 ^ m → P b := by
  intro m
  induction m with
  | zero => intro _ b hb; have e : b = 0 := by rw [Nat.pow_zero] at hb; omega
            rw [e]; exact h0
  | succ m ih =>
    intro hm b hb
    rcases Nat.lt_or_ge b (2 ^ m) with hlt | hge
    · exact ih (by omega) b hlt
    · have hb' : b - 2 ^ m < 2 ^ m := by rw [Nat.pow_succ] at hb; omega
      have e : b = 2 ^ m ^^^ (b - 2 ^ m) := by rw [← add_pow_xor m _ hb']; omega
      have l1 : 2 ^ m < 2 ^ n := Nat.pow_lt_pow_right (by omega) (by omega)
      rw [e]
      exact hx _ _ l1 (by omega) (hp m (by omega)) (ih (by omega) _ hb')
theorem dbl_ck : allB 256 (fun a => Nat.beq (gmul 2 a) (dbl a)) = true := by decide +kernel
theorem dbl_gmul {a : Nat} (ha : a < 256) : dbl a = gmul 2 a := (Nat.eq_of_beq_eq_true (of_allB dbl_ck a ha)).symm
theorem dbl_xor {a b : Nat} (ha : a < 256) (hb : b < 256) : dbl (a ^^^ b) = dbl a ^^^ dbl b := by
  rw [dbl_gmul ha, dbl_gmul hb, dbl_gmul (xor_lt ha hb), gmul_xor]
/-- A check by the kernel: a product with twice a power is twice the product. -/
theorem gmul_dbl_ck : allB 256 (fun a => allB 8 fun i => Nat.beq (gmul a (dbl (2 ^ i))) (dbl (gmul a (2 ^ i)))) = true := by decide +kernel
theorem gmul_dbl {a b : Nat} (ha : a < 256) (hb : b < 256) : gmul a (dbl b) = dbl (gmul a b) := by
  refine bits_ind (P := fun b => gmul a (dbl b) = dbl (gmul a b)) 8 ?_ ?_ ?_ 8 (Nat.le_refl _) b hb
  · show gmul a 0 = dbl (gmul a 0)
    rw [gmul_zero]; rfl
  · intro i hi
    exact Nat.eq_of_beq_eq_true (of_allB (of_allB gmul_dbl_ck a ha) i hi)
  · intro b c hb hc h1 h2
    rw [dbl_xor hb hc, gmul_xor, h1, h2, gmul_xor, dbl_xor (gmul_lt ha) (gmul_lt ha)]
theorem gmul_one_ck : allB 256 (fun a => Nat.beq (gmul a 1) a && Nat.beq (gmul 0 a) 0) = true := by decide +kernel
theorem gmul_one {a : Nat} (ha : a < 256) : gmul a 1 = a := by
  have := of_allB gmul_one_ck a ha
  rw [Bool.and_eq_true] at this
  exact Nat.eq_of_beq_eq_true this.1
theorem zero_gmul {a : Nat} (ha : a < 256) : gmul 0 a = 0 := by
  have := of_allB gmul_one_ck a ha
  rw [Bool.and_eq_true] at this
  exact Nat.eq_of_beq_eq_true this.2

/-- The powers of 2. -/
def E : Nat → Nat
  | 0 => 1
  | n + 1 => dbl (E n)
theorem E_lt (n : Nat) : E n < 256 := by
  induction n with
  | zero => decide
  | succ n ih => exact dbl_lt ih
theorem E_255 : E 255 = 1 := by decide +kernel
theorem E_period (n : Nat) : E (n + 255) = E n := by
  induction n with
  | zero => rw [Nat.zero_add, E_255]; rfl
  | succ n ih => rw [show n + 1 + 255 = (n + 255) + 1 from by omega]; show dbl (E (n + 255)) = dbl (E n); rw [ih]
theorem E_add_mul (n k : Nat) : E (n + 255 * k) = E n := by
  induction k with
  | zero => rfl
  | succ k ih => rw [show n + 255 * (k + 1) = (n + 255 * k) + 255 from by omega, E_period, ih]
theorem E_mod (n : Nat) : E (n % 255) = E n := by
  have := E_add_mul (n % 255) (n / 255)
  rw [Nat.mod_add_div] at this
  exact this.symm
/-- The logarithm, by search. -/
def lgF (a : Nat) : Nat → Nat
  | 0 => 0
  | n + 1 => if E n = a then n else lgF a n
def lg (a : Nat) : Nat := lgF a 255
def lgck (a : Nat) : Bool := Nat.beq a 0 || (Nat.beq (E (lg a)) a && Nat.blt (lg a) 255)
theorem lgF_ck : allB 256 (fun a => Nat.beq a 0 || Nat.beq (E (lg a)) a) = true := by decide +kernel
theorem E_lg {a : Nat} (ha : a < 256) (h0 : a ≠ 0) : E (lg a) = a := by
  have := of_allB lgF_ck a ha
  rw [Bool.or_eq_true] at this
  rcases this with h | h
  · exact absurd (Nat.eq_of_beq_eq_true h) h0
  · exact Nat.eq_of_beq_eq_true h
theorem lgF_lt (a : Nat) : ∀ n, 0 < n → lgF a n < n := by
  intro n
  induction n with
  | zero => intro h; omega
  | succ n ih =>
    intro _
    unfold lgF
    split
    · omega
    · rcases Nat.eq_zero_or_pos n with h | h
      · subst h; exact Nat.lt_succ_self _
      · have := ih h; omega
theorem lg_lt (a : Nat) : lg a < 255 := lgF_lt a 255 (by omega)
theorem lg_E_ck : allB 255 (fun n => Nat.beq (lg (E n)) n) = true := by decide +kernel
theorem lg_E {n : Nat} (h : n < 255) : lg (E n) = n := Nat.eq_of_beq_eq_true (of_allB lg_E_ck n h)
theorem lg_Emod (n : Nat) : lg (E n) = n % 255 := by rw [← E_mod]; exact lg_E (Nat.mod_lt _ (by omega))
theorem E_pos_ck : allB 255 (fun n => !Nat.beq (E n) 0) = true := by decide +kernel
theorem E_ne (n : Nat) : E n ≠ 0 := by
  rw [← E_mod]
  intro h
  have := of_allB E_pos_ck (n % 255) (Nat.mod_lt _ (by omega))
  rw [h] at this
  exact absurd this (by decide)
theorem gmul_EE (m : Nat) : ∀ n, gmul (E m) (E n) = E (m + n) := by
  intro n
  induction n with
  | zero => exact gmul_one (E_lt m)
  | succ n ih =>
    show gmul (E m) (dbl (E n)) = dbl (E (m + n))
    rw [gmul_dbl (E_lt m) (E_lt n), ih]
theorem gmul_lg {a b : Nat} (ha : a < 256) (hb : b < 256) (h1 : a ≠ 0) (h2 : b ≠ 0) : gmul a b = E (lg a + lg b) := by
  have := gmul_EE (lg a) (lg b)
  rwa [E_lg ha h1, E_lg hb h2] at this
theorem gmul_comm {a b : Nat} (ha : a < 256) (hb : b < 256) : gmul a b = gmul b a := by
  by_cases h1 : a = 0
  · rw [h1, zero_gmul hb, gmul_zero]
  · by_cases h2 : b = 0
    · rw [h2, zero_gmul ha, gmul_zero]
    · rw [gmul_lg ha hb h1 h2, gmul_lg hb ha h2 h1, Nat.add_comm]
theorem gmul_ne {a b : Nat} (ha : a < 256) (hb : b < 256) (h1 : a ≠ 0) (h2 : b ≠ 0) : gmul a b ≠ 0 := by
  rw [gmul_lg ha hb h1 h2]; exact E_ne _
theorem gmul_eq_zero {a b : Nat} (ha : a < 256) (hb : b < 256) : gmul a b = 0 ↔ a = 0 ∨ b = 0 := by
  constructor
  · intro h
    by_cases h1 : a = 0
    · exact .inl h1
    · by_cases h2 : b = 0
      · exact .inr h2
      · exact absurd h (gmul_ne ha hb h1 h2)
  · rintro (h | h)
    · rw [h, zero_gmul hb]
    · rw [h, gmul_zero]
theorem gmul_assoc {a b c : Nat} (ha : a < 256) (hb : b < 256) (hc : c < 256) : gmul a (gmul b c) = gmul (gmul a b) c := by
  by_cases h1 : a = 0
  · rw [h1, zero_gmul (gmul_lt hb), zero_gmul hb, zero_gmul hc]
  · by_cases h2 : b = 0
    · rw [h2, zero_gmul hc, gmul_zero, zero_gmul hc]
    · by_cases h3 : c = 0
      · rw [h3, gmul_zero, gmul_zero, gmul_zero]
      · rw [gmul_lg hb hc h2 h3, gmul_lg ha hb h1 h2]
        conv => lhs; rw [← E_lg ha h1]
        conv => rhs; rw [← E_lg hc h3]
        rw [gmul_EE, gmul_EE, Nat.add_assoc]
theorem lg_gmul {a b : Nat} (ha : a < 256) (hb : b < 256) (h1 : a ≠ 0) (h2 : b ≠ 0) : lg (gmul a b) = (lg a + lg b) % 255 := by
  rw [gmul_lg ha hb h1 h2, lg_Emod]
/-- The quotient. -/
def gdiv (a b : Nat) : Nat := if a = 0 then 0 else E ((lg a + 255 - lg b) % 255)
theorem gdiv_lt (a b : Nat) : gdiv a b < 256 := by unfold gdiv; split; omega; exact E_lt _
theorem gdiv_mul {a b : Nat} (ha : a < 256) (hb : b < 256) (h2 : b ≠ 0) : gmul (gdiv a b) b = a := by
  unfold gdiv
  split
  · rename_i h; rw [zero_gmul hb, h]
  · rename_i h1
    have hl := lg_lt b
    have hl' := lg_lt a
    have e := gmul_EE ((lg a + 255 - lg b) % 255) (lg b)
    rw [E_lg hb h2] at e
    rw [e, ← E_mod, show ((lg a + 255 - lg b) % 255 + lg b) % 255 = lg a from by omega, E_lg ha h1]
end Go.Proofs.Ytebpaafofombaaa.GfMath
