/-
  WHAT COMES IN: a map of members. (The first lemma is the guide's block for copying.)
-/
import Derived.Test.YtmdffmajnbokeaaPlW10
import Derived.Deep.Slices
import Derived.Deep.Fields
import Derived.ChangeSame
import Derived.Lib.SmallJoins
namespace Go.Proofs.Ytmdffmajnbokeaa
open Go.RowKit StrMath PlMath
open Go.ChangeShapes Go.WideShapes Go.Deep
set_option linter.unusedVariables false
section
variable {H : Type} {enc : TypeId × Value → H} {P : Program} {w : World} {base : Nat} {spare : Nat → Bool} {held : Bool}
theorem open_slice_fields {t e : TypeId} {fs : Array Field} {fuel : Nat} {cs : List Value} {x : DataW H × List MemPlace} (ht : P.underlying t = some (.slice e)) (he : P.underlying e = some (.struct fs))
    (hone : oneCellFields P fs = true) (hC : P.cellsOf e = fs.size) (h : DataW.trod enc P w base spare held fuel t cs = some x) :
    (cs = [.slice none 0 0] ∧ x = (.nil, [])) ∨
    ∃ (a : Addr) (len cap m : Nat) (D : Nat → DataW H) (Pl : Nat → List MemPlace), cs = [.slice (some a) len cap] ∧ base ≤ a.block ∧ len ≤ cap ∧ cap ≤ maxLen ∧ m = (if spare a.block then cap else len) ∧
      x = (.slice ((List.range len).map D) ((List.range (m - len)).map fun j => D (len + j)), MemPlace.row a (m * fs.size) ++ (List.range m).flatMap Pl) ∧
      ∀ i, i < m → ∃ (ys : List (DataW H × List MemPlace)) (n : Nat), D i = .agg (ys.map (·.1)) ∧ Pl i = ys.flatMap (·.2) ∧ ys.length = fs.size ∧
        ∀ (j : Nat) (f : Field), fs[j]? = some f → ∃ (v : Value) (y : DataW H × List MemPlace), w.cell? (a.add (i * fs.size + j)) = some v ∧ ys[j]? = some y ∧ DataW.trod enc P w base spare held n f.type [v] = some y := by
  rcases open_slice ht h with h0 | ⟨a, len, cap, m, n, D, Pl, hcs, hb, hl, hm, hmm, hx, hi⟩
  · exact .inl h0
  · refine .inr ⟨a, len, cap, m, D, Pl, hcs, hb, hl, hm, hmm, by rw [hC] at hx; exact hx, fun i him => ?_⟩
    obtain ⟨cs', hc, ht'⟩ := hi i him
    rw [hC] at hc
    obtain ⟨ys, n', hn', hy, hlen, hyl, hf⟩ := DataW.trod_struct he ht'
    obtain ⟨_, hcl, hat⟩ := World.cells?_some hc
    simp only [Prod.mk.injEq] at hy
    refine ⟨ys, n', hy.1, hy.2, hyl, fun j f hj => ?_⟩
    obtain ⟨ho, hk⟩ := hone_of hone j f hj
    have hjl : j < fs.size := (Array.getElem?_eq_some_iff.1 hj).1
    have hcell := hat j hjl
    have hv : cs'[j]? = some (cs'[j]'(by omega)) := List.getElem?_eq_getElem (by omega)
    have h1 := hf j f hj
    rw [ho, hk] at h1
    have hone' : (cs'.drop j).take 1 = [cs'[j]'(by omega)] := by
      rw [List.drop_eq_getElem_cons (by omega)]
      rfl
    rw [hone'] at h1
    have hys : ys[j]? = some (ys[j]'(by omega)) := List.getElem?_eq_getElem (by omega)
    refine ⟨_, _, ?_, hys, h1.trans hys⟩
    rw [← Go.Deep.add_add, hcell, hv]
end
theorem hgrow {w w' : World} {size n : Nat} {A : Option Addr} {xs : List Value} (h : Hid (Reads w w.heap.size size A n xs)) (hb : Below w.heap.size w w') : Hid (Reads w' w'.heap.size size A n xs) := Lib.hid (h.out.grow hb)
/-- A map that comes in. -/
theorem open_mem {H : Type} {enc : TypeId × Value → H} {w : World} {base : Nat} {spare : Nat → Bool} {held : Bool} {fuel : Nat} {v : Value} {x : DataW H × List MemPlace} (h : DataW.trod enc Try.prog w base spare held fuel 23 [v] = some x) :
    ∃ A n cap ms, v = .slice A n cap ∧ Reads w w.heap.size 2 A n (mcells ms) ∧ M64 ms ∧ n ≤ cap ∧ cap ≤ maxLen := by
  rcases open_slice_fields Try.underlying23 Try.underlying41 (by kernel_rfl) (by kernel_rfl) h with ⟨e, _⟩ | ⟨a, len, cap, m, D, Pl, e, hb, hl, hm, hmm, hx, hf⟩
  · injection e with e
    exact ⟨none, 0, 0, [], e, ⟨rfl, fun h => absurd h (by omega)⟩, (fun x hx => by cases hx), Nat.le_refl _, by unfold maxLen; omega⟩
  · injection e with e
    have hlm : len ≤ m := by rw [hmm]; split <;> omega
    have hcell : ∀ i, i < len → ∃ y : Mem, w.cell? (a.add (i * 2)) = some (iv y.1) ∧ w.cell? (a.add (i * 2 + 1)) = some (iv y.2) ∧ ((-9223372036854775808 ≤ y.1 ∧ y.1 ≤ 9223372036854775807) ∧ (-9223372036854775808 ≤ y.2 ∧ y.2 ≤ 9223372036854775807)) := by
      intro i hi
      obtain ⟨ys, n, _, _, _, hg⟩ := hf i (by omega)
      obtain ⟨v0, y0, c0, _, t0⟩ := hg 0 _ rfl
      obtain ⟨v1, y1, c1, _, t1⟩ := hg 1 _ rfl
      obtain ⟨z0, e0, _, w0⟩ := DataW.trod_int Try.underlying3 t0
      obtain ⟨z1, e1, _, w1⟩ := DataW.trod_int Try.underlying3 t1
      injection e0 with e0
      injection e1 with e1
      subst e0
      subst e1
      exact ⟨(z0, z1), c0, c1, by simpa [Lit.wf, IntKind.min, IntKind.max, IntKind.signed, IntKind.bits] using w0, by simpa [Lit.wf, IntKind.min, IntKind.max, IntKind.signed, IntKind.bits] using w1⟩
    have hch : ∃ ms : List Mem, ms.length = len ∧ ∀ i (hi : i < ms.length), w.cell? (a.add (i * 2)) = some (iv ms[i].1) ∧ w.cell? (a.add (i * 2 + 1)) = some (iv ms[i].2) ∧ ((-9223372036854775808 ≤ ms[i].1 ∧ ms[i].1 ≤ 9223372036854775807) ∧ (-9223372036854775808 ≤ ms[i].2 ∧ ms[i].2 ≤ 9223372036854775807)) := by
      clear hf hx e hb hl hm hmm hlm h
      induction len with
      | zero => exact ⟨[], rfl, fun i hi => absurd hi (by simp)⟩
      | succ len ih =>
        obtain ⟨ms, h1, h2⟩ := ih fun i hi => hcell i (by omega)
        obtain ⟨y, hy⟩ := hcell len (by omega)
        refine ⟨ms ++ [y], by simp [h1], fun i hi => ?_⟩
        by_cases hlt : i < ms.length
        · rw [List.getElem_append_left hlt]; exact h2 i hlt
        · obtain rfl : i = len := by simp at hi; omega
          rw [List.getElem_append_right (by omega)]
          simpa [h1] using hy
    obtain ⟨ms, h1, h2⟩ := hch
    refine ⟨some a, len, cap, ms, e, ⟨by rw [mcells_len, h1], fun hn => ⟨a, rfl, ?_, fun j u hu => ?_⟩⟩, fun x hx => ?_, hl, hm⟩
    · have := World.block_lt_of_cell? _ _ (h2 0 (by omega)).1
      rwa [block_of_add] at this
    · have hj : j < ms.length * 2 := by
        have h3 := (List.getElem?_eq_some_iff.1 hu).1
        rw [mcells_len] at h3
        exact h3
      have hg := mcells_get ms (j / 2) (by omega)
      have h3 := h2 (j / 2) (by omega)
      have hd : ms.getD (j / 2) (0, 0) = ms[j / 2]'(by omega) := by rw [List.getD_eq_getElem?_getD, List.getElem?_eq_getElem (by omega)]; rfl
      rw [hd] at hg
      rcases Nat.mod_two_eq_zero_or_one j with h4 | h4
      · have ej : j / 2 * 2 = j := by omega
        rw [ej] at hg h3
        rw [h3.1, ← hu, hg.1]
      · have ej : j / 2 * 2 + 1 = j := by omega
        rw [ej] at hg h3
        rw [h3.2.1, ← hu, hg.2]
    · obtain ⟨i, hi, rfl⟩ := List.mem_iff_getElem.1 hx
      exact (h2 i hi).2.2
theorem open_map {H : Type} {enc : TypeId × Value → H} {w : World} {base b0 : Nat} {spare : Nat → Bool} {held : Bool} {r : Reach} {v : Value} {d : DataW H} {p : List MemPlace} (hok : Value.okWide Try.prog w r b0 25 v) (h : DataW.Trod enc Try.prog w base spare held 25 v d p) :
    ∃ e A n cap ms, v = mapV e A n cap ∧ e < 18446744073709551616 ∧ Hid (Reads w w.heap.size 2 A n (mcells ms)) ∧ M64 ms ∧ n ≤ cap ∧ cap ≤ maxLen := by
  obtain ⟨v0, v1, y0, y1, n, rfl, _, _, t0, t1⟩ := Go.Joins.open_agg2 Try.underlying25 (by kernel_rfl) (by kernel_rfl) hok h
  obtain ⟨z0, e0, _, w0⟩ := DataW.trod_int Try.underlying22 t0
  obtain ⟨A, k, cap, ms, e1, hr, h64, hc, hm⟩ := open_mem t1
  injection e0 with e0
  subst e0
  subst e1
  have : 0 ≤ z0 ∧ z0 ≤ 18446744073709551615 := by simpa [Lit.wf, IntKind.min, IntKind.max, IntKind.signed, IntKind.bits] using w0
  obtain ⟨z, rfl⟩ := Int.eq_ofNat_of_zero_le this.1
  exact ⟨z, A, k, cap, ms, rfl, by omega, Lib.hid hr, h64, hc, hm⟩
end Go.Proofs.Ytmdffmajnbokeaa
