/-
  Words that the matrix laws share.
-/
import Derived.Test.YtebpaafofombaaaMxW19
namespace Go.Proofs.Ytebpaafofombaaa
open Go.RowKit GfMath MxMath
set_option linter.unusedVariables false
def Yes (W : World) (e : Ending) (w' : World) : Prop := e = .returned (.bool true) ∧ Below W.heap.size W w'
theorem samem_bel (A B : Option Addr) (ca cb n m : Nat) (ls ks : List (List Nat)) (w : World) (HA : Hid (InM w A ca ls)) (HB : Hid (InM w B cb ks)) (hl : ls.length = n) (hk : ks.length = m) :
    Calls Try.prog 15 #[.slice A n ca, .slice B m cb] w fun e w' => e = .returned (.bool (decide (ls = ks))) ∧ Below w.heap.size w w' :=
  (samem_any A B ca cb n m ls ks w HA HB hl hk).mono fun e w' ⟨he, d, hw⟩ => ⟨he, hw ▸ bel_drewN (Below.refl _ _) d⟩
theorem same_true {ls : List (List Nat)} : decide (ls = ls) = true := decide_eq_true rfl
theorem sameb_true {ls : List Nat} : decide (ls = ls) = true := decide_eq_true rfl
/-- Bytes as a column of elements. -/
def col (xs : List Nat) : Nat → El := fun j => el (xs.getD j 0)
theorem lrow_col {xs : List Nat} {n : Nat} (hx : Byt xs) (hl : xs.length = n) : lrow n (col xs) = xs := by
  apply List.ext_getElem?
  intro j
  by_cases h : j < n
  · rw [lrow_get _ h]
    have hj : j < xs.length := by omega
    rw [List.getElem?_eq_getElem hj]
    unfold col
    rw [List.getD_eq_getElem?_getD, List.getElem?_eq_getElem hj, el_v (by exact hx _ (List.getElem_mem hj))]
    rfl
  · rw [List.getElem?_eq_none (by rw [lrow_len]; omega), List.getElem?_eq_none (by omega)]
theorem col_reads {w : World} {B n : Nat} {A : Option Addr} {xs : List Nat} (hx : Byt xs) (hl : xs.length = n) (h : Reads w B 1 A n (xs.map bv)) : Reads w B 1 A n ((lrow n (col xs)).map bv) := by rw [lrow_col hx hl]; exact h
/-- The inverse undoes what a matrix does to a column. -/
theorem undo_col {n : Nat} {A B : Mat} (h : EqOn n n (mm n A B) dl) (f : Nat → El) : ∀ i, i < n → fsum n (fun j => A i j * fsum n (fun k => B j k * f k)) = f i := fun i hi => by
  have h1 := mm_assoc n n A B (fun k _ => f k) i 0
  have h2 : mm n (mm n A B) (fun k _ => f k) i 0 = f i := by
    rw [mm_congr h (EqOn.refl n 1 (fun k _ => f k)) i 0 hi (by omega)]
    exact one_mm n (fun k _ => f k) i 0 hi
  rw [h2] at h1
  exact h1.symm
/-- Applied one behind the other. -/
theorem apply_mm (n : Nat) (A B : Mat) (f : Nat → El) (i : Nat) : fsum n (fun j => A i j * fsum n (fun k => B j k * f k)) = fsum n (fun k => mm n A B i k * f k) := (mm_assoc n n A B (fun k _ => f k) i 0).symm
end Go.Proofs.Ytebpaafofombaaa
