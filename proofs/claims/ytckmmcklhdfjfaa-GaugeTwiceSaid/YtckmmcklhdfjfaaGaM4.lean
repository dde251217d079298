/-
  Twice as great: a quotient of doubled whole numbers below 2^52 is the same, to the bit.
-/
import Derived.Test.YtckmmcklhdfjfaaGaMath
namespace Go.Proofs.Ytckmmcklhdfjfaa
open Go.RowKit
set_option linter.unusedVariables false
theorem f64_least : FloatKind.f64.format.leastPlace = -1074 := by decide
theorem f64_binade : FloatKind.f64.format.binade = 4503599627370496 := by decide
theorem f64_inf : FloatKind.f64.format.infRung = 9218868437227405312 := by decide
theorem f64_sign : FloatKind.f64.format.signWeight = 9223372036854775808 := by decide
theorem f64_frac : FloatKind.f64.format.fractionBits = 52 := rfl
def mag (n : Nat) : Nat := n * 2 ^ (52 - n.log2)
theorem log_le {n : Nat} (h0 : 0 < n) (h : n < 2 ^ 53) : n.log2 ≤ 52 := by
  have := (Nat.log2_lt (by omega : n ≠ 0)).2 h
  omega
theorem mag_rng {n : Nat} (h0 : 0 < n) (h : n < 2 ^ 53) : 4503599627370496 ≤ mag n ∧ mag n < 9007199254740992 := by
  have hl := log_le h0 h
  have h1 := Nat.log2_self_le (n := n) (by omega)
  have h2 := Nat.lt_log2_self (n := n)
  unfold mag
  constructor
  · have e : 4503599627370496 = 2 ^ n.log2 * 2 ^ (52 - n.log2) := by rw [← Nat.pow_add, show n.log2 + (52 - n.log2) = 52 by omega]
    rw [e]
    exact Nat.mul_le_mul_right _ h1
  · have e : 9007199254740992 = 2 ^ (n.log2 + 1) * 2 ^ (52 - n.log2) := by rw [← Nat.pow_add, show n.log2 + 1 + (52 - n.log2) = 53 by omega]
    rw [e]
    exact Nat.mul_lt_mul_of_pos_right h2 (Nat.two_pow_pos _)
theorem cut_zero (s : Bool) (x : Nat) : Ieee.Toward.even.cut s x 0 = x := by
  unfold Ieee.Toward.cut
  simp [Nat.mod_one]
theorem fl_word {n : Nat} (h0 : 0 < n) (h : n < 2 ^ 53) : fl (n : Int) = (n.log2 + 1022) * 4503599627370496 + mag n := by
  have hl := log_le h0 h
  obtain ⟨m1, m2⟩ := mag_rng h0 h
  show FloatKind.f64.format.nearest (decide ((n : Int) < 0)) (n : Int).natAbs 0 = _
  rw [decide_eq_false (by omega : ¬ (n : Int) < 0), Int.natAbs_natCast]
  unfold Ieee.Format.nearest
  rw [if_neg (by omega), f64_least, f64_binade, f64_inf, f64_frac]
  have e1 : max ((0 : Int) + (n.log2 : Nat) - (52 : Nat)) (-1074) = (n.log2 : Int) - 52 := by omega
  simp only [e1]
  rw [show ((n.log2 : Int) - 52 - 0).toNat = 0 by omega, cut_zero, show ((0 : Int) - ((n.log2 : Int) - 52)).toNat = 52 - n.log2 by omega, show ((n.log2 : Int) - 52 - -1074).toNat = n.log2 + 1022 by omega, Nat.shiftLeft_eq]
  show (if false = true then _ else _) = _
  rw [if_neg (by decide)]
  show min ((n.log2 + 1022) * 4503599627370496 + mag n) _ = _
  omega
theorem read_fl {n : Nat} (h0 : 0 < n) (h : n < 2 ^ 53) : FloatKind.f64.format.read (fl (n : Int)) = .number false (mag n) ((n.log2 : Int) - 52) := by
  have hl := log_le h0 h
  obtain ⟨m1, m2⟩ := mag_rng h0 h
  rw [fl_word h0 h]
  generalize mag n = k at *
  unfold Ieee.Format.read
  rw [f64_least, f64_binade, f64_inf, f64_sign]
  generalize n.log2 = L at *
  have e1 : ((L + 1022) * 4503599627370496 + k) / 9223372036854775808 % 2 = 0 := by omega
  have e2 : ((L + 1022) * 4503599627370496 + k) % 9223372036854775808 = (L + 1022) * 4503599627370496 + k := by omega
  have e3 : ((L + 1022) * 4503599627370496 + k) / 4503599627370496 = L + 1023 := by omega
  have e4 : ((L + 1022) * 4503599627370496 + k) % 4503599627370496 = k - 4503599627370496 := by omega
  rw [e1, e2]
  dsimp only
  rw [if_neg (by omega), if_pos (by omega), e3, e4]
  have e5 : 4503599627370496 + (k - 4503599627370496) = k := by omega
  have e6 : (-1074 : Int) + ((L + 1023 - 1 : Nat) : Int) = (L : Int) - 52 := by omega
  rw [e5, e6]
  rfl
theorem mag_two {n : Nat} (h0 : 0 < n) (h : n < 2 ^ 52) : mag (2 * n) = mag n ∧ (2 * n).log2 = n.log2 + 1 := by
  have e : (2 * n).log2 = n.log2 + 1 := Nat.log2_two_mul (by omega)
  have hl : n.log2 < 52 := (Nat.log2_lt (by omega : n ≠ 0)).2 h
  refine ⟨?_, e⟩
  unfold mag
  rw [e, show 52 - n.log2 = (52 - (n.log2 + 1)) + 1 by omega, Nat.pow_succ]
  rw [Nat.mul_comm 2 n, Nat.mul_assoc, Nat.mul_comm 2]
theorem read_zero : FloatKind.f64.format.read (fl ((0 : Nat) : Int)) = .number false 0 (-1074) := by decide
theorem write_zero (s : Bool) (p q : Int) : FloatKind.f64.format.write (.number s 0 p) = FloatKind.f64.format.write (.number s 0 q) := by
  show FloatKind.f64.format.nearest s 0 p = FloatKind.f64.format.nearest s 0 q
  unfold Ieee.Format.nearest
  rw [if_pos rfl, if_pos rfl]
theorem div_twice {a b : Nat} (ha : a < 2 ^ 52) (hb : b < 2 ^ 52) : floatBits .quo .f64 (fl ((2 * a : Nat) : Int)) (fl ((2 * b : Nat) : Int)) = floatBits .quo .f64 (fl (a : Int)) (fl (b : Int)) := by
  show ((FloatKind.f64.format.read _).quotient _ (FloatKind.f64.format.read _)).map _ = ((FloatKind.f64.format.read _).quotient _ (FloatKind.f64.format.read _)).map _
  rcases Nat.eq_zero_or_pos a with rfl | a0
  · rcases Nat.eq_zero_or_pos b with rfl | b0
    · rfl
    · obtain ⟨e1, e2⟩ := mag_two b0 hb
      obtain ⟨m1, m2⟩ := mag_rng b0 (by omega)
      rw [show 2 * 0 = 0 from rfl, read_zero, read_fl b0 (by omega), read_fl (by omega : 0 < 2 * b) (by omega), e1, e2]
      unfold Ieee.Datum.quotient
      dsimp only
      rw [if_neg (by omega), if_neg (by omega)]
      simp only [Nat.zero_shiftLeft, Nat.zero_div, Nat.zero_mod, Option.map_some]
      exact congrArg some (write_zero _ _ _)
  · obtain ⟨e1, e2⟩ := mag_two a0 ha
    obtain ⟨m1, m2⟩ := mag_rng a0 (by omega)
    rcases Nat.eq_zero_or_pos b with rfl | b0
    · rw [show 2 * 0 = 0 from rfl, read_zero, read_fl a0 (by omega), read_fl (by omega : 0 < 2 * a) (by omega), e1, e2]
      unfold Ieee.Datum.quotient
      dsimp only
      rw [if_pos rfl, if_neg (by omega), if_pos rfl]
    · obtain ⟨e3, e4⟩ := mag_two b0 hb
      rw [read_fl b0 (by omega), read_fl (by omega : 0 < 2 * b) (by omega), read_fl a0 (by omega), read_fl (by omega : 0 < 2 * a) (by omega), e1, e2, e3, e4]
      unfold Ieee.Datum.quotient
      dsimp only
      obtain ⟨m3, m4⟩ := mag_rng b0 (by omega)
      rw [if_neg (by omega), if_neg (by omega)]
      rw [show ((a.log2 + 1 : Nat) : Int) - 52 - (((b.log2 + 1 : Nat) : Int) - 52) = (a.log2 : Int) - 52 - ((b.log2 : Int) - 52) by omega]
theorem ratio_twice {a b : Nat} (ha : a < 2 ^ 52) (hb : b < 2 ^ 52) : ratio (cls (fl ((2 * a : Nat) : Int))) (cls (fl ((2 * b : Nat) : Int))) = ratio (cls (fl (a : Int))) (cls (fl (b : Int))) := by
  unfold ratio
  rw [← fop_cls, ← fop_cls, div_twice ha hb]
end Go.Proofs.Ytckmmcklhdfjfaa
