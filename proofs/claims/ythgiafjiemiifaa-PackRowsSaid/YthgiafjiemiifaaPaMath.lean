/-
  READING, in plain words: what is read of bytes at a place, and how far.
-/
import Derived.Test.YthgiafjiemiifaaOctOneM
namespace Go.Proofs.Ythgiafjiemiifaa
open OctMath
set_option linter.unusedVariables false
/-- A reading: from a place, a thing and the place behind it, or nothing. -/
abbrev Rd (α : Type) := Nat → Option (α × Nat)
def Rd.pure {α : Type} (x : α) : Rd α := fun at_ => some (x, at_)
def Rd.bind {α β : Type} (r : Rd α) (f : α → Rd β) : Rd β := fun at_ => match r at_ with
  | some (x, p) => f x p
  | none => none
theorem Rd.bind_some {α β : Type} {r : Rd α} {f : α → Rd β} {at_ p : Nat} {x : α} (h : r at_ = some (x, p)) : r.bind f at_ = f x p := by unfold Rd.bind; rw [h]
theorem Rd.bind_none {α β : Type} {r : Rd α} {f : α → Rd β} {at_ : Nat} (h : r at_ = none) : r.bind f at_ = none := by unfold Rd.bind; rw [h]
def rNum (bs : List Nat) : Rd Nat := fun at_ => if (rdN bs at_).2.2 = 0 then some ((rdN bs at_).1, (rdN bs at_).2.1.toNat) else none
def rInt (bs : List Nat) : Rd Int := fun at_ => (rNum bs at_).map fun x => (unz x.1, x.2)
def rWord (bs : List Nat) : Rd Nat := fun at_ => match rNum bs at_ with
  | some (n, p) => if n < 4294967296 then some (n, p) else none
  | none => none
def rFlag (bs : List Nat) : Rd Bool := fun at_ => if at_ < bs.length ∧ bs.getD at_ 0 ≤ 1 then some (decide (0 < bs.getD at_ 0), at_ + 1) else none
def rText (bs : List Nat) : Rd (List Nat) := fun at_ => if (rdB bs at_ 1048576).2.2 = 0 then some ((rdB bs at_ 1048576).1, (rdB bs at_ 1048576).2.1.toNat) else none
/-- k things one behind the other. -/
def rTimes {α : Type} (one : Rd α) : Nat → Rd (List α)
  | 0 => Rd.pure []
  | k + 1 => (rTimes one k).bind fun l => one.bind fun x => Rd.pure (l ++ [x])
def rList {α : Type} (bs : List Nat) (one : Rd α) : Rd (List α) := (rNum bs).bind fun n p => if 1048576 < n ∨ bs.length - p < n then none else rTimes one n p
def rMem (bs : List Nat) : Rd (Int × Int) := (rInt bs).bind fun i => (rInt bs).bind fun w => Rd.pure (i, w)
def rMap (bs : List Nat) : Rd (Nat × List (Int × Int)) := (rNum bs).bind fun e => (rList bs (rMem bs)).bind fun l => Rd.pure (e, l)
def rConf (bs : List Nat) : Rd (List Int × List Int) := (rList bs (rInt bs)).bind fun v => (rList bs (rInt bs)).bind fun l => Rd.pure (v, l)
structure IdT where
  ver : Nat
  idx : Int
  ep : Nat
def rId (bs : List Nat) : Rd IdT := (rNum bs).bind fun v => (rInt bs).bind fun i => (rNum bs).bind fun e => Rd.pure ⟨v, i, e⟩
structure HdT where
  id : IdT
  k : Int
  n : Int
  size : Int
  sum : Nat
def rHd (bs : List Nat) : Rd HdT := (rId bs).bind fun d => (rInt bs).bind fun k => (rInt bs).bind fun n => (rInt bs).bind fun s => (rWord bs).bind fun m => Rd.pure ⟨d, k, n, s, m⟩
/-- What a reading that goes well has read: the bytes that the thing is put as. -/
structure Wrote {α : Type} (bs : List Nat) (r : Rd α) (put : α → List Nat) : Prop where
  rd : ∀ at_ x p, r at_ = some (x, p) → at_ ≤ bs.length → at_ ≤ p ∧ p ≤ bs.length ∧ (bs.drop at_).take (p - at_) = put x
theorem Wrote.pure {α : Type} (bs : List Nat) (x : α) : Wrote bs (Rd.pure x) (fun _ => []) := ⟨fun at_ y p h hl => by cases h; exact ⟨Nat.le_refl _, hl, by simp⟩⟩
theorem take_join (bs : List Nat) {a p q : Nat} (h1 : a ≤ p) (h2 : p ≤ q) : (bs.drop a).take (q - a) = (bs.drop a).take (p - a) ++ (bs.drop p).take (q - p) := by
  have e : q - a = (p - a) + (q - p) := by omega
  rw [e, List.take_add, List.drop_drop, show a + (p - a) = p by omega]
/-- Two readings one behind the other. -/
theorem Wrote.bind {α β : Type} {bs : List Nat} {r : Rd α} {f : α → Rd β} {put : α → List Nat} {put2 : α → β → List Nat} {put3 : β → List Nat} (h : Wrote bs r put) (hf : ∀ x, Wrote bs (f x) (put2 x)) (he : ∀ at_ x p y q, r at_ = some (x, p) → f x p = some (y, q) → put3 y = put x ++ put2 x y) : Wrote bs (r.bind f) put3 := by
  refine ⟨fun at_ y q hy hl => ?_⟩
  unfold Rd.bind at hy
  cases hr : r at_ with
  | none => rw [hr] at hy; cases hy
  | some v =>
    obtain ⟨x, p⟩ := v
    rw [hr] at hy
    obtain ⟨a1, a2, a3⟩ := h.rd at_ x p hr hl
    obtain ⟨b1, b2, b3⟩ := (hf x).rd p y q hy a2
    exact ⟨by omega, b2, by rw [take_join bs a1 b1, a3, b3, he at_ x p y q hr hy]⟩
end Go.Proofs.Ythgiafjiemiifaa
