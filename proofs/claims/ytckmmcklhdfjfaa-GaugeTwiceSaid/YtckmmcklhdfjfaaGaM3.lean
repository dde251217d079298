/-
  A whole number as a float is none that is no number.
-/
import Derived.Test.YtckmmcklhdfjfaaGaMath
namespace Go.Proofs.Ytckmmcklhdfjfaa
open Go.RowKit
set_option linter.unusedVariables false
theorem word_num (neg : Bool) (r : Nat) (h : r ≤ FloatKind.f64.format.infRung) : nanb (FloatKind.f64.format.word neg r) = false := by
  rw [nanb_eq]
  have e1 : FloatKind.f64.format.signWeight = 2 ^ 63 := by decide
  have e2 : FloatKind.f64.format.binade = 2 ^ 52 := by decide
  have e3 : FloatKind.f64.format.infRung = 0x7ff0000000000000 := by decide
  unfold Ieee.Format.read Ieee.Format.word
  rw [e1, e2, e3]
  rw [e3] at h
  have e4 : (if neg = true then 2 ^ 63 + r else r) % 2 ^ 63 = r := by cases neg <;> simp <;> omega
  rw [e4]
  dsimp only
  split
  · rfl
  · split
    · rfl
    · rw [if_pos (by omega)]; rfl
theorem fl_num (n : Int) : nanb (fl n) = false := by
  show nanb (FloatKind.f64.format.nearest _ _ _) = false
  unfold Ieee.Format.nearest
  split
  · exact word_num _ _ (Nat.zero_le _)
  · exact word_num _ _ (Nat.min_le_right _ _)
end Go.Proofs.Ytckmmcklhdfjfaa
