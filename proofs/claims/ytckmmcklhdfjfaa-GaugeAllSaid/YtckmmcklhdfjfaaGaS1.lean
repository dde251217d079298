/-
  The order of places by the program's compare: it is one of the whole numbers in disguise.
-/
import Derived.Test.YtckmmcklhdfjfaaGaM2
namespace Go.Proofs.Ytckmmcklhdfjfaa
open Go.RowKit
set_option linter.unusedVariables false
def rkD : Ieee.Datum → Nat
  | .infinity true => 0
  | .number .. => 1
  | .infinity false => 2
  | .nan .. => 3
def vlD : Ieee.Datum → Int
  | .number s m i => Ieee.signed s m (i + 1074).toNat
  | _ => 0
def rkF (x : Nat) : Nat := rkD (FloatKind.f64.format.read x)
def vlF (x : Nat) : Int := 2 * vlD (FloatKind.f64.format.read x) + sgF x
theorem read_place {x : Nat} {s : Bool} {m : Nat} {i : Int} (h : FloatKind.f64.format.read x = .number s m i) : -1074 ≤ i := by
  have e : FloatKind.f64.format.leastPlace = -1074 := by decide
  unfold Ieee.Format.read at h
  rw [e] at h
  dsimp only at h
  split at h
  · cases h; omega
  · split at h
    · cases h; omega
    · split at h <;> cases h
theorem signed_scale (s : Bool) (m u d : Nat) : Ieee.signed s m (u + d) = Ieee.signed s m u * 2 ^ d := by
  have e : m <<< (u + d) = m <<< u * 2 ^ d := by rw [Nat.shiftLeft_eq, Nat.shiftLeft_eq, Nat.pow_add, Nat.mul_assoc]
  have e2 : ((m <<< (u + d) : Nat) : Int) = ((m <<< u : Nat) : Int) * 2 ^ d := by rw [e]; push_cast; rfl
  unfold Ieee.signed
  cases s
  · simp only [Bool.false_eq_true, if_false]; exact e2
  · simp only [if_true]; rw [e2, Int.neg_mul]
theorem pow_pos_int (d : Nat) : (0 : Int) < 2 ^ d := by
  have := Nat.two_pow_pos d
  exact_mod_cast this
theorem cmp_scale (a b : Int) (d : Nat) : compare (a * 2 ^ d) (b * 2 ^ d) = compare a b := by
  have hp := pow_pos_int d
  rcases Int.lt_trichotomy a b with h | h | h
  · rw [Int.compare_eq_lt.2 h, Int.compare_eq_lt.2 (Int.mul_lt_mul_of_pos_right h hp)]
  · rw [h, Int.compare_eq_eq.2 rfl, Int.compare_eq_eq.2 rfl]
  · rw [Int.compare_eq_gt.2 h, Int.compare_eq_gt.2 (Int.mul_lt_mul_of_pos_right h hp)]
theorem ford_val {x y : Nat} {s t : Bool} {m n : Nat} {i j : Int} (hx : FloatKind.f64.format.read x = .number s m i) (hy : FloatKind.f64.format.read y = .number t n j) :
    ford x y = some (compare (vlD (FloatKind.f64.format.read x)) (vlD (FloatKind.f64.format.read y))) := by
  have hi := read_place hx
  have hj := read_place hy
  unfold ford Ieee.Format.order
  rw [hx, hy]
  simp only [Ieee.Datum.order, vlD]
  have e1 : (i + 1074).toNat = (i - min i j).toNat + (min i j + 1074).toNat := by omega
  have e2 : (j + 1074).toNat = (j - min i j).toNat + (min i j + 1074).toNat := by omega
  rw [e1, e2, signed_scale, signed_scale, cmp_scale]
theorem sgF_rng (x : Nat) : -1 ≤ sgF x ∧ sgF x ≤ 0 := by unfold sgF; split <;> omega
theorem sgF_zero {x : Nat} (h : sgF x ≠ 0) : (FloatKind.f64.format.read x).isZero = true := by
  rw [← ford_zero]
  unfold sgF at h
  split at h
  · rename_i h1
    rw [Bool.and_eq_true] at h1
    simpa using h1.1
  · exact absurd rfl h
theorem sgF_val {x : Nat} (h : sgF x ≠ 0) : vlD (FloatKind.f64.format.read x) = 0 := by
  have hz := sgF_zero h
  generalize FloatKind.f64.format.read x = a at *
  cases a with
  | number s m i =>
    have hm : m = 0 := by cases m <;> simp_all [Ieee.Datum.isZero]
    exact signed_zero.2 hm
  | infinity s => rfl
  | nan s t => rfl
theorem sgF_inf {x : Nat} (h : (FloatKind.f64.format.read x).isZero = false) : sgF x = 0 := Classical.byContradiction fun hn => by rw [sgF_zero hn] at h; cases h
/-- The order, told by two numbers. -/
theorem compF_lt (x y : Nat) : compF x y < 0 ↔ rkF x < rkF y ∨ rkF x = rkF y ∧ vlF x < vlF y := by
  unfold compF rkF vlF
  rw [nanb_eq, nanb_eq]
  have sx := sgF_rng x
  have sy := sgF_rng y
  have zx := @sgF_val x
  have zy := @sgF_val y
  have ix := @sgF_inf x
  have iy := @sgF_inf y
  cases hx : FloatKind.f64.format.read x with
  | nan s t =>
    rw [if_pos (show (Ieee.Datum.nan s t).isNaN = true from rfl)]
    rw [hx] at ix
    have ix := ix rfl
    cases hy : FloatKind.f64.format.read y with
    | nan s' t' =>
      rw [hy] at iy
      have iy := iy rfl
      rw [if_pos (show (Ieee.Datum.nan s' t').isNaN = true from rfl), ix, iy]
      simp [rkD, vlD]
    | infinity s' => cases s' <;> simp [rkD, Ieee.Datum.isNaN]
    | number s' m' i' => simp [rkD, Ieee.Datum.isNaN]
  | infinity s =>
    rw [hx] at ix
    have ix := ix rfl
    rw [if_neg (by simp [Ieee.Datum.isNaN])]
    cases hy : FloatKind.f64.format.read y with
    | nan s' t' => cases s <;> simp [rkD, Ieee.Datum.isNaN]
    | infinity s' =>
      rw [hy] at iy
      have iy := iy rfl
      rw [if_neg (by simp [Ieee.Datum.isNaN]), ix, iy]
      unfold cmpF ford Ieee.Format.order
      rw [hx, hy]
      cases s <;> cases s' <;> decide
    | number s' m' i' =>
      rw [if_neg (by simp [Ieee.Datum.isNaN])]
      unfold cmpF ford Ieee.Format.order
      rw [hx, hy]
      cases s <;> simp [Ieee.Datum.order, rkD]
  | number s m i =>
    rw [if_neg (by simp [Ieee.Datum.isNaN])]
    cases hy : FloatKind.f64.format.read y with
    | nan s' t' => simp [rkD, Ieee.Datum.isNaN]
    | infinity s' =>
      rw [if_neg (by simp [Ieee.Datum.isNaN])]
      unfold cmpF ford Ieee.Format.order
      rw [hx, hy]
      cases s' <;> simp [Ieee.Datum.order, rkD]
    | number s' m' i' =>
      rw [if_neg (by simp [Ieee.Datum.isNaN])]
      have hf := ford_val hx hy
      rw [hx] at zx hf
      rw [hy] at zy hf
      generalize vlD (.number s m i) = a at *
      generalize vlD (.number s' m' i') = b at *
      generalize sgF x = p at *
      generalize sgF y = q at *
      have hr : rkD (.number s m i) = rkD (.number s' m' i') := rfl
      have h3 : cmpF x y = if a < b then -1 else if b < a then 1 else 0 := by
        unfold cmpF
        rw [hf]
        rcases Int.lt_trichotomy a b with h | h | h
        · rw [Int.compare_eq_lt.2 h, if_pos rfl, if_pos h]
        · rw [Int.compare_eq_eq.2 h, if_neg (by decide), if_neg (by decide), if_neg (by omega), if_neg (by omega)]
        · rw [Int.compare_eq_gt.2 h, if_neg (by decide), if_pos rfl, if_neg (by omega), if_pos h]
      rw [h3]
      unfold cmpI
      have h0 : p ≠ 0 → a = 0 := zx
      have h1 : q ≠ 0 → b = 0 := zy
      clear zx zy ix iy h3 hf
      simp only [hr, true_and, Nat.lt_irrefl, false_or]
      split
      · split
        · omega
        · split <;> omega
      · split
        · omega
        · split
          · omega
          · split <;> omega
theorem compF_asym {x y : Nat} (h : compF x y < 0) : ¬ compF y x < 0 := by
  rw [compF_lt] at h ⊢
  omega
theorem compF_le_trans {x y z : Nat} (h : ¬ compF y x < 0) (h' : ¬ compF z y < 0) : ¬ compF z x < 0 := by
  rw [compF_lt] at h h' ⊢
  omega
/-- What the test on numbers that stand behind each other looks for. -/
theorem compF_told {x y : Nat} (h : ¬ compF y x < 0) : (nanb x = true → nanb y = true) ∧ ford x y ≠ some .gt := by
  constructor
  · intro hx
    cases hy : nanb y with
    | true => rfl
    | false => exact absurd (by unfold compF; rw [hx, hy]; simp) h
  · intro hg
    apply h
    have hs := ford_swap x y
    rw [hg] at hs
    have hny : nanb y = false ∧ nanb x = false := by
      rw [nanb_eq, nanb_eq]
      revert hg
      unfold ford Ieee.Format.order
      generalize FloatKind.f64.format.read x = a
      generalize FloatKind.f64.format.read y = b
      cases a <;> cases b <;> simp [Ieee.Datum.order, Ieee.Datum.isNaN]
    have hc : cmpF y x = -1 := by unfold cmpF; rw [hs]; rfl
    unfold compF
    rw [hny.1, hny.2, hc]
    simp
end Go.Proofs.Ytckmmcklhdfjfaa
