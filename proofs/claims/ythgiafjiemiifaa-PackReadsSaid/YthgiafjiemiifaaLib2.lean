/-
  More words for rows of bytes: a part of a row.
-/
import Derived.Test.YthgiafjiemiifaaLib
namespace Go.Proofs.Ythgiafjiemiifaa
open Go.RowKit
set_option linter.unusedVariables false
theorem Reads.first {w : World} {B n : Nat} {A : Option Addr} {xs : List Value} (h : Reads w B 1 A n xs) {k : Nat} (hk : k ≤ n) : Reads w B 1 A k (xs.take k) := by
  have hl : xs.length = n := by simpa using h.1
  refine ⟨by rw [List.length_take]; omega, fun h0 => ?_⟩
  obtain ⟨ad, rfl, hb, hc⟩ := h.2 (by omega)
  refine ⟨ad, rfl, hb, fun j u hu => hc j u ?_⟩
  rcases Nat.lt_or_ge j k with hj | hj
  · rw [List.getElem?_take_of_lt hj] at hu; exact hu
  · rw [List.getElem?_eq_none (by rw [List.length_take]; omega)] at hu; cases hu
/-- A part of a row: what the instruction answers, and what it reads. -/
theorem slice_mid {P : Program} {t e : TypeId} (ht : P.underlying t = some (.slice e)) (hi : (P.info? e).map (fun i => (i.zero, i.size, i.bytes)) = some (some (.int .u8 0), 1, 1)) {w : World} {B n cap : Nat} {A : Option Addr} {xs : List Nat} (h : Reads w B 1 A n (xs.map bv)) (j k : Nat) (hj : j ≤ k) (hk : k ≤ n) (hn : n ≤ cap) :
    ∃ A2, (∀ W : World, (Instr.sliceAt t (.slice A n cap) (some (.int .i64 (j : Int))) (some (.int .i64 (k : Int))) none).run P W = .ok (.slice A2 (k - j) (cap - j)) W) ∧
      (∀ w' : World, Reads w' B 1 A n (xs.map bv) → Reads w' B 1 A2 (k - j) (((xs.drop j).take (k - j)).map bv)) := by
  obtain ⟨i, hi, k2, k3, k4⟩ := info_parts hi
  refine ⟨if cap = j then A else A.map (·.add (j * 1)), fun W => slice_both ht hi k3 A n cap j k hj (by omega) W, fun w' h' => ?_⟩
  have hc := (h'.cut (k := j) (by omega) hn).first (k := k - j) (by omega)
  rw [Nat.mul_one, ← List.map_drop, ← List.map_take] at hc
  rw [Nat.mul_one]
  exact hc
/-- A drawn region whose operations yield the same value in every world of a class, and whose calls stay in it: walked once, in the text's order. -/
theorem wp_region_class {P : Program} {id : Nat} {Q : Exit → Act → World → Prop} {a : Act} {w : World} {l : List Oper} (C : World → Prop) (hm : P.follows .mixedOrders = true) (hB : Region.lexB .any l.toArray = true)
    (hC : C { w with drawn := w.drawn + 1 }) (h : wpQuiet P l.toArray C (fun a' => ∀ w', C w' → Q .normal a' w') l a) : (Code.region id l.toArray true).wp P Q a w :=
  wp_region_quiet (C := C) hm hB hC (by simpa using h)
end Go.Proofs.Ythgiafjiemiifaa
