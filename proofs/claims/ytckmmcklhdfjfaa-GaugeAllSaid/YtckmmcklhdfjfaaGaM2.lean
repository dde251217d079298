/-
  The reference's 'ahead' and the program's 'compare' are one order.
-/
import Derived.Test.YtckmmcklhdfjfaaGaW8
namespace Go.Proofs.Ytckmmcklhdfjfaa
open Go.RowKit
set_option linter.unusedVariables false
theorem ford_swap (x y : Nat) : ford y x = (ford x y).map Ordering.swap := by
  unfold ford Ieee.Format.order
  generalize FloatKind.f64.format.read x = a
  generalize FloatKind.f64.format.read y = b
  cases a <;> cases b <;> simp only [Ieee.Datum.order, Option.map_none, Option.map_some]
  · rw [Int.min_comm]
    congr 1
    exact (Int.compare_swap _ _).symm
  · rename_i t; cases t <;> rfl
  · rename_i s _ _ _; cases s <;> rfl
  · congr 1
    exact (Nat.compare_swap _ _).symm
theorem signed_zero {s : Bool} {m u : Nat} : Ieee.signed s m u = 0 ↔ m = 0 := by
  have h : m <<< u = 0 ↔ m = 0 := by
    rw [Nat.shiftLeft_eq]
    have := Nat.two_pow_pos u
    constructor
    · intro h; rcases Nat.mul_eq_zero.1 h with h | h <;> omega
    · intro h; rw [h]; simp
  unfold Ieee.signed
  cases s
  · simp only [Bool.false_eq_true, if_false]; omega
  · simp only [if_true]; omega
theorem ford_zero (x : Nat) : ford x 0 = some .eq ↔ (FloatKind.f64.format.read x).isZero = true := by
  unfold ford Ieee.Format.order
  have h0 : FloatKind.f64.format.read 0 = .number false 0 FloatKind.f64.format.leastPlace := by decide
  rw [h0]
  generalize FloatKind.f64.format.read x = a
  cases a with
  | number s m i =>
    simp only [Ieee.Datum.order, Option.some.injEq, Int.compare_eq_eq]
    have e : Ieee.signed false 0 (FloatKind.f64.format.leastPlace - min i FloatKind.f64.format.leastPlace).toNat = 0 := signed_zero.2 rfl
    rw [e, signed_zero]
    cases m <;> simp [Ieee.Datum.isZero]
  | infinity s => cases s <;> simp [Ieee.Datum.order, Ieee.Datum.isZero]
  | nan s t => simp [Ieee.Datum.order, Ieee.Datum.isZero]
theorem ford_zero_eq {x y : Nat} (h : ford x y = some .eq) (hx : ford x 0 = some .eq) : ford y 0 = some .eq := by
  rw [ford_zero] at hx ⊢
  revert h hx
  unfold ford Ieee.Format.order
  generalize FloatKind.f64.format.read x = a
  generalize FloatKind.f64.format.read y = b
  cases a with
  | number s m i =>
    cases b with
    | number t n j =>
      intro h hx
      simp only [Ieee.Datum.order, Option.some.injEq, Int.compare_eq_eq] at h
      have hm : m = 0 := by cases m <;> simp_all [Ieee.Datum.isZero]
      rw [signed_zero.2 hm] at h
      have hn := signed_zero.1 h.symm
      subst hn
      rfl
    | infinity s => intro h; cases s <;> simp [Ieee.Datum.order] at h
    | nan s t => intro h; simp [Ieee.Datum.order] at h
  | infinity s => intro _ hx; simp [Ieee.Datum.isZero] at hx
  | nan s t => intro _ hx; simp [Ieee.Datum.isZero] at hx
def ahd (a b : Nat) : Bool := if nanb a = true then false else if nanb b = true then true else if (ford a 0 == some .eq && ford b 0 == some .eq) = true then sgn a && !sgn b else ford a b == some .lt
theorem zero_both {x y : Nat} (hx : ford x 0 = some .eq) (hy : ford y 0 = some .eq) : ford x y = some .eq := by
  rw [ford_zero] at hx hy
  revert hx hy
  unfold ford Ieee.Format.order
  generalize FloatKind.f64.format.read x = a
  generalize FloatKind.f64.format.read y = b
  cases a with
  | number s m i =>
    cases b with
    | number t n j =>
      intro hx hy
      have hm : m = 0 := by cases m <;> simp_all [Ieee.Datum.isZero]
      have hn : n = 0 := by cases n <;> simp_all [Ieee.Datum.isZero]
      simp only [Ieee.Datum.order, Option.some.injEq, Int.compare_eq_eq]
      rw [signed_zero.2 hm, signed_zero.2 hn]
    | infinity s => intro _ hy; simp [Ieee.Datum.isZero] at hy
    | nan s t => intro _ hy; simp [Ieee.Datum.isZero] at hy
  | infinity s => intro hx; simp [Ieee.Datum.isZero] at hx
  | nan s t => intro hx; simp [Ieee.Datum.isZero] at hx
theorem ford_some {x y : Nat} (hx : nanb x = false) (hy : nanb y = false) : ford x y ≠ none := by
  rw [nanb_eq] at hx hy
  revert hx hy
  unfold ford Ieee.Format.order
  generalize FloatKind.f64.format.read x = a
  generalize FloatKind.f64.format.read y = b
  cases a <;> cases b <;> simp [Ieee.Datum.order, Ieee.Datum.isNaN]
theorem cmpI_sgn (p q : Bool) : decide (cmpI (if p = true then -1 else 0) (if q = true then -1 else 0) > 0) = (q && !p) := by cases p <;> cases q <;> rfl
theorem ahd_comp (x y : Nat) (hx : nanb x = false) (hy : nanb y = false) : ahd y x = decide (compF x y > 0) := by
  unfold ahd compF
  rw [hx, hy]
  simp only [Bool.false_eq_true, if_false]
  have hsw := ford_swap x y
  cases h : ford x y with
  | none => exact absurd h (ford_some hx hy)
  | some o =>
    rw [h] at hsw
    have hz : o ≠ .eq → (ford y 0 == some .eq && ford x 0 == some .eq) = false := by
      intro ho
      cases h1 : (ford y 0 == some .eq) <;> cases h2 : (ford x 0 == some .eq) <;> try rfl
      have := zero_both (eq_of_beq h2) (eq_of_beq h1)
      rw [h] at this
      exact absurd (Option.some.inj this) ho
    cases o with
    | lt =>
      have e : cmpF x y = -1 := by unfold cmpF; rw [h]; rfl
      rw [hz (by decide), e, hsw]
      rfl
    | gt =>
      have e : cmpF x y = 1 := by unfold cmpF; rw [h]; rfl
      rw [hz (by decide), e, hsw]
      rfl
    | eq =>
      have e : cmpF x y = 0 := by unfold cmpF; rw [h]; rfl
      rw [e, hsw, if_neg (show ¬ ((0 : Int) ≠ 0) from fun h => h rfl)]
      unfold sgF
      rw [cmpI_sgn]
      cases h2 : (ford x 0 == some .eq)
      · have h1 : (ford y 0 == some .eq) = false := by
          cases h1 : (ford y 0 == some .eq)
          · rfl
          · have := ford_zero_eq (show ford y x = some .eq from hsw) (eq_of_beq h1)
            rw [this] at h2
            cases h2
        rw [h1]; rfl
      · have h1 : (ford y 0 == some .eq) = true := by rw [ford_zero_eq h (eq_of_beq h2)]; rfl
        rw [h1]
        cases sgn x <;> cases sgn y <;> rfl
end Go.Proofs.Ytckmmcklhdfjfaa
