/-
  WHAT THE SECOND FORM's CONDITION GIVES: no slice and no string that comes in is longer than 1048576.
-/
import Derived.Test.YtmamdnikjfmenaaLib
namespace Go.Proofs.Ytmamdnikjfmenaa
open Go.RowKit Go.ChangeShapes
set_option linter.unusedVariables false
theorem bulk_append {H : Type} (a b : List (DataW H)) : Rows.uptoBulkAll (a ++ b) = Rows.uptoBulkAll a + Rows.uptoBulkAll b := by
  induction a with
  | nil => simp [Rows.uptoBulkAll]
  | cons x a ih => simp only [List.cons_append, Rows.uptoBulkAll, ih]; omega
theorem bulk_lits {H : Type} (k : IntKind) (zs : List Int) : Rows.uptoBulkAll (lits (H := H) k zs) = zs.length := by
  unfold lits
  induction zs with
  | nil => simp [Rows.uptoBulkAll]
  | cons x a ih => simp only [List.map_cons, Rows.uptoBulkAll, Rows.uptoBulk, ih, List.length_cons]; omega
theorem ints_small {H : Type} {enc : TypeId × Value → H} {P : Program} {t e : TypeId} {k : IntKind} {w : World} {base : Nat} {sp : Nat → Bool} {held : Bool} {A : Option Addr} {len cap : Nat} {d : DataW H} {ps : List MemPlace}
    (ht : P.underlying t = some (.slice e)) (he : P.underlying e = some (.int k)) (hc : P.cellsOf e = 1) (h : DataW.Trod enc P w base sp held t (.slice A len cap) d ps)
    (hsz : Rows.uptoBulk d ≤ 1048576) : len ≤ 1048576 := by
  obtain ⟨fuel, hf⟩ := h
  rcases open_ints ht he hc hf with ⟨hcs, _⟩ | ⟨x, l, c, zs, hcs, _, hl, hm, hz, hx, hcell, hwz⟩
  · simp [Value.cells] at hcs
    obtain ⟨rfl, rfl, rfl⟩ := hcs
    omega
  · simp [Value.cells] at hcs
    obtain ⟨rfl, rfl, rfl⟩ := hcs
    have hz' : len ≤ zs.length := by
      have h1 : zs.length = if sp x.block = true then cap else len := by simpa using hz
      rw [h1]; split <;> omega
    have hd : d = .slice (lits k (zs.take len)) (lits k (zs.drop len)) := congrArg Prod.fst hx
    subst hd
    rw [Rows.uptoBulk, bulk_lits, bulk_lits, List.length_take, List.length_drop] at hsz
    omega
theorem str_small {H : Type} {s : ByteArray} (h : Rows.uptoBulk (H := H) (.lit (.string s.data.toList)) ≤ 1048576) : s.size ≤ 1048576 := by
  rw [Rows.uptoBulk, Array.length_toList] at h
  have : s.size = s.data.size := rfl
  omega
end Go.Proofs.Ytmamdnikjfmenaa
