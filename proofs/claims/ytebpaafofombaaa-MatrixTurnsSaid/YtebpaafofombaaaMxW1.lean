/-
  MEMORY OF MATRICES: slices of slices of bytes, own ones and ones that came in.
-/
import Derived.Test.YtebpaafofombaaaMxCauchy
import Derived.Test.YtebpaafofombaaaGfW9
namespace Go.Proofs.Ytebpaafofombaaa
open Go.RowKit GfMath
set_option linter.unusedVariables false
theorem own_below {w w' : World} {base size n : Nat} {t : TypeId} {v : Value} {xs : List Value} (h : w.ownsRow base t size v n xs) (hb : Below w.heap.size w w') : w'.ownsRow base t size v n xs := by
  refine ⟨h.1, ?_⟩
  rcases h.2 with h0 | ⟨g, cap, cur, hv, hg, hc, h1, h2, h3, h4⟩
  · exact .inl h0
  · have hlt : g < w.heap.size := by
      rcases Nat.lt_or_ge g w.heap.size with hlt | hge
      · exact hlt
      · rw [Array.getElem?_eq_none hge] at hc; cases hc
    exact .inr ⟨g, cap, cur, hv, hg, (hb.block g hlt).trans hc, h1, h2, h3, h4⟩
theorem own_base {w : World} {base base' : Nat} {e : TypeId} {size n : Nat} {v : Value} {xs : List Value} (h : w.ownsRow base e size v n xs) (hb : base' ≤ base) : w.ownsRow base' e size v n xs := by
  refine ⟨h.1, ?_⟩
  rcases h.2 with h0 | ⟨g, cap, cur, hv, hg, hr⟩
  · exact .inl h0
  · exact .inr ⟨g, cap, cur, hv, by omega, hr⟩
theorem own_far {w : World} {base size n : Nat} {t : TypeId} {v : Value} {xs : List Value} {p : Addr} (h : w.ownsRow base t size v n xs) (hne : v.ownBlock ≠ some p.block) (u : Value) : (w.setCell p u).ownsRow base t size v n xs :=
  h.kept (row := some p.block) ⟨rfl, rfl, rfl, by simp, fun k _ hk => heap_setCell_other w p k u (fun e => hk (by rw [e]))⟩ (.inr hne)
theorem own_drewN {w : World} {base size n : Nat} {t : TypeId} {v : Value} {xs : List Value} (h : w.ownsRow base t size v n xs) (k : Nat) : (w.drewN k).ownsRow base t size v n xs := h
/-- Bytes of a slice type, of one block each: no two kinds share a block. -/
theorem own_apart {w : World} {base base' size size' n m : Nat} {t t' : TypeId} {v v' : Value} {xs ys : List Value} (h : w.ownsRow base t size v n xs) (h' : w.ownsRow base' t' size' v' m ys) (hne : t ≠ t') {g : Nat} (hg : v'.ownBlock = some g) : v.ownBlock ≠ some g := by
  rcases h'.2 with ⟨rfl, _⟩ | ⟨g', cap, cur, rfl, _, hh, _⟩
  · simp [Value.ownBlock] at hg
  · have : g' = g := by simpa [Value.ownBlock] using hg
    subst this
    exact own_blk_ne h (show Blk w g' t' cur from hh) hne
/-- Rows of the call's own. -/
def RowsOwn (w : World) (base : Nat) (vs : List Value) (ls : List (List Nat)) : Prop :=
  vs.length = ls.length ∧ ∀ (i : Nat) (l : List Nat), ls[i]? = some l → ∃ v, vs[i]? = some v ∧ w.ownsRow base 5 1 v l.length (l.map bv) ∧ Byt l
/-- A matrix of the call's own. -/
def OwnM (w : World) (base : Nat) (v : Value) (ls : List (List Nat)) : Prop := ∃ vs, w.ownsRow base 22 1 v ls.length vs ∧ RowsOwn w base vs ls
/-- Rows that are read. -/
def RowsIn (w : World) (vs : List Value) (ls : List (List Nat)) : Prop :=
  vs.length = ls.length ∧ ∀ (i : Nat) (l : List Nat), ls[i]? = some l → ∃ A cap, vs[i]? = some (.slice A l.length cap) ∧ l.length ≤ cap ∧ cap ≤ maxLen ∧ Reads w w.heap.size 1 A l.length (l.map bv) ∧ Byt l
/-- A matrix that is read. -/
def InM (w : World) (A : Option Addr) (cap : Nat) (ls : List (List Nat)) : Prop := ls.length ≤ cap ∧ cap ≤ maxLen ∧ ∃ vs, Reads w w.heap.size 1 A ls.length vs ∧ RowsIn w vs ls
section
variable {w w' : World} {base base' cap : Nat} {vs : List Value} {ls : List (List Nat)} {v : Value} {A : Option Addr}
theorem RowsOwn.in_ (h : RowsOwn w base vs ls) : RowsIn w vs ls := by
  refine ⟨h.1, fun i l hl => ?_⟩
  obtain ⟨v, hv, ho, hb⟩ := h.2 i l hl
  obtain ⟨A, cap, rfl, h1, h2⟩ := own_slice ho
  exact ⟨A, cap, hv, h1, h2, Reads.of_own ho, hb⟩
theorem OwnM.slice (h : OwnM w base v ls) : ∃ A cap, v = .slice A ls.length cap ∧ InM w A cap ls := by
  obtain ⟨vs, ho, hr⟩ := h
  obtain ⟨A, cap, rfl, h1, h2⟩ := own_slice ho
  exact ⟨A, cap, rfl, h1, h2, vs, Reads.of_own ho, hr.in_⟩
theorem RowsOwn.below (h : RowsOwn w base vs ls) (hb : Below w.heap.size w w') : RowsOwn w' base vs ls :=
  ⟨h.1, fun i l hl => let ⟨v, hv, ho, hy⟩ := h.2 i l hl; ⟨v, hv, own_below ho hb, hy⟩⟩
theorem RowsOwn.base_ (h : RowsOwn w base vs ls) (hb : base' ≤ base) : RowsOwn w base' vs ls :=
  ⟨h.1, fun i l hl => let ⟨v, hv, ho, hy⟩ := h.2 i l hl; ⟨v, hv, own_base ho hb, hy⟩⟩
theorem OwnM.below (h : OwnM w base v ls) (hb : Below w.heap.size w w') : OwnM w' base v ls :=
  let ⟨vs, ho, hr⟩ := h; ⟨vs, own_below ho hb, hr.below hb⟩
theorem OwnM.base_ (h : OwnM w base v ls) (hb : base' ≤ base) : OwnM w base' v ls :=
  let ⟨vs, ho, hr⟩ := h; ⟨vs, own_base ho hb, hr.base_ hb⟩
theorem RowsIn.later (h : RowsIn w vs ls) (hb : Below w.heap.size w w') : RowsIn w' vs ls :=
  ⟨h.1, fun i l hl => let ⟨A, cap, hv, h1, h2, hr, hy⟩ := h.2 i l hl; ⟨A, cap, hv, h1, h2, hr.later hb, hy⟩⟩
theorem InM.later (h : InM w A cap ls) (hb : Below w.heap.size w w') : InM w' A cap ls :=
  let ⟨h1, h2, vs, hr, hi⟩ := h; ⟨h1, h2, vs, hr.later hb, hi.later hb⟩
/-- Row number i of a matrix that is read. -/
theorem InM.row (h : InM w A cap ls) {i : Nat} (hi : i < ls.length) : ∃ ad B c, A = some ad ∧ w.cell? (ad.add i) = some (.slice B (ls.getD i []).length c) ∧ (ls.getD i []).length ≤ c ∧ c ≤ maxLen ∧
    Reads w w.heap.size 1 B (ls.getD i []).length ((ls.getD i []).map bv) ∧ Byt (ls.getD i []) := by
  obtain ⟨_, _, vs, hr, hi2⟩ := h
  obtain ⟨ad, u, e, _, hu, hc⟩ := hr.at_ hi
  have hl : ls[i]? = some (ls.getD i []) := by rw [List.getD_eq_getElem?_getD, List.getElem?_eq_getElem hi]; rfl
  obtain ⟨B, c, hv, h1, h2, h3, h4⟩ := hi2.2 i _ hl
  rw [hu] at hv
  cases hv
  exact ⟨ad, B, c, e, hc, h1, h2, h3, h4⟩
end
end Go.Proofs.Ytebpaafofombaaa
