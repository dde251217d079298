/-
  TWO MATRICES THAT ARE CHANGED ALONG: words for clear and reduce.
-/
import Derived.Test.YtebpaafofombaaaMxW13
namespace Go.Proofs.Ytebpaafofombaaa
open Go.RowKit GfMath MxMath
set_option linter.unusedVariables false
/-- An outer slice of the call's own, whose rows are put anew. -/
theorem OwnM.put {w : World} {base g c r n i : Nat} {M K : Mat} {u : Value} {f : Nat → El} (h : OwnM w base (.slice (some ⟨g, 0, none⟩) r c) (lmat r n M)) (hi : i < r) (hu : w.ownsRow base 5 1 u n ((lrow n f).map bv)) (hK : ∀ q, K q = if q = i then f else M q) :
    OwnM (w.setCell ⟨g, i, none⟩ u) base (.slice (some ⟨g, 0, none⟩) r c) (lmat r n K) := by
  obtain ⟨vs, ho, hr⟩ := h
  rw [lmat_len] at ho
  have hl : vs.length = r := by rw [hr.1, lmat_len]
  have far : ∀ {v : Value} {m : Nat} {xs : List Value}, w.ownsRow base 5 1 v m xs → (w.setCell ⟨g, i, none⟩ u).ownsRow base 5 1 v m xs := fun {v m xs} hv => own_far (p := ⟨g, i, none⟩) hv (own_apart hv ho (by decide) rfl) u
  refine ⟨vs.set i u, by rw [lmat_len]; exact (ho.stored i u).1, by rw [List.length_set, hl, lmat_len], fun q l hq => ?_⟩
  have hqr : q < r := by
    rcases Nat.lt_or_ge q r with h1 | h1
    · exact h1
    · rw [List.getElem?_eq_none (by rw [lmat_len]; exact h1)] at hq; cases hq
  rw [lmat_get K hqr] at hq
  injection hq with hq
  subst hq
  by_cases e : q = i
  · subst e
    refine ⟨u, by rw [List.getElem?_set]; simp [hl, hqr], ?_, lrow_byt _ _⟩
    rw [hK, if_pos rfl, lrow_len]
    exact far hu
  · obtain ⟨v, hv, hov, hy⟩ := hr.2 q _ (lmat_get M hqr)
    refine ⟨v, by rw [List.getElem?_set, if_neg (fun e2 => e e2.symm)]; exact hv, ?_, lrow_byt _ _⟩
    rw [hK, if_neg e]
    exact far hov
/-- Another matrix stays. -/
theorem OwnM.far {w : World} {base : Nat} {v u : Value} {ls : List (List Nat)} {p : Addr} (h : OwnM w base v ls) (hg : v.ownBlock ≠ some p.block) {base' m : Nat} {y : Value} {ys : List Value} (hy : w.ownsRow base' 22 1 y m ys) (hp : y.ownBlock = some p.block) : OwnM (w.setCell p u) base v ls := by
  obtain ⟨vs, ho, hr⟩ := h
  exact ⟨vs, own_far ho hg u, hr.1, fun i l hl => let ⟨v, hv, hov, hb⟩ := hr.2 i l hl; ⟨v, hv, own_far hov (own_apart hov hy (by decide) hp) u, hb⟩⟩
/-- Row number i of an own matrix: the cell, and the row itself. -/
theorem OwnM.cell {w : World} {base g c r n i : Nat} {M : Mat} (h : OwnM w base (.slice (some ⟨g, 0, none⟩) r c) (lmat r n M)) (hi : i < r) :
    ∃ D d, w.cell? ⟨g, i, none⟩ = some (.slice D n d) ∧ w.frozen? ⟨g, i, none⟩ = false ∧ n ≤ d ∧ d ≤ maxLen ∧ w.ownsRow base 5 1 (.slice D n d) n ((lrow n (M i)).map bv) := by
  obtain ⟨vs, ho, hr⟩ := h
  rw [lmat_len] at ho
  obtain ⟨v, hv, hov, _⟩ := hr.2 i _ (lmat_get M hi)
  rw [lrow_len] at hov
  obtain ⟨D, d, rfl, h1, h2⟩ := own_slice hov
  exact ⟨D, d, by rw [ho.cellAt i (by omega)]; exact hv, ho.frozenAt i, h1, h2, hov⟩
theorem Others.refl (w : World) : Others w w := fun _ _ _ _ h => h
theorem Others.trans {a b c : World} (h : Others a b) (k : Others b c) : Others a c := fun g t cs hne hB => k g t cs hne (h g t cs hne hB)
theorem Others.of_below {w w' : World} (h : Below w.heap.size w w') : Others w w' := fun g t cs _ hB => hB.below h hB.lt
theorem Others.put {w : World} {base m : Nat} {y : Value} {ys : List Value} {p : Addr} (hy : w.ownsRow base 22 1 y m ys) (hp : y.ownBlock = some p.block) (u : Value) : Others w (w.setCell p u) := fun g t cs hne hB =>
  hB.far (fun e => own_blk_ne hy hB (fun e2 => hne e2.symm) (by rw [hp, e])) u
/-- Two matrices of the call's own beside one another; 'w' is the world ahead of both, 'wi' the one since which no other block has turned. -/
structure Two (w wi : World) (g c g' c' r n n' : Nat) (L R : Mat) (wr : World) : Prop where
  lo : OwnM wr w.heap.size (.slice (some ⟨g, 0, none⟩) r c) (lmat r n L)
  ro : OwnM wr w.heap.size (.slice (some ⟨g', 0, none⟩) r c') (lmat r n' R)
  ne : g ≠ g'
  bel : Below w.heap.size w wr
  oth : Others wi wr
section
variable {w wi wr w' : World} {g c g' c' r n n' i : Nat} {L R K : Mat}
theorem Two.later (h : Two w wi g c g' c' r n n' L R wr) (hb : Below wr.heap.size wr w') : Two w wi g c g' c' r n n' L R w' :=
  ⟨h.lo.below hb, h.ro.below hb, h.ne, h.bel.trans (hb.mono h.bel.size), h.oth.trans (Others.of_below hb)⟩
theorem own_lo {v : Value} {base : Nat} {ls : List (List Nat)} (h : OwnM wr base v ls) : ∀ k, v.ownBlock = some k → base ≤ k := fun k hk => let ⟨_, ho, _⟩ := h; (ho.lt k hk).1
theorem Two.putL (h : Two w wi g c g' c' r n n' L R wr) (hi : i < r) {u : Value} {f : Nat → El} (hu : wr.ownsRow w.heap.size 5 1 u n ((lrow n f).map bv)) (hK : ∀ q, K q = if q = i then f else L q) : Two w wi g c g' c' r n n' K R (wr.setCell ⟨g, i, none⟩ u) := by
  obtain ⟨vs, ho, hr⟩ := h.lo
  have hlo := own_lo h.lo g rfl
  exact ⟨h.lo.put hi hu hK, h.ro.far (p := ⟨g, i, none⟩) (fun e => h.ne (by simpa [Value.ownBlock] using e.symm)) ho rfl, h.ne, h.bel.setCell hlo _, h.oth.trans (Others.put (p := ⟨g, i, none⟩) ho rfl u)⟩
theorem Two.putR (h : Two w wi g c g' c' r n n' L R wr) (hi : i < r) {u : Value} {f : Nat → El} (hu : wr.ownsRow w.heap.size 5 1 u n' ((lrow n' f).map bv)) (hK : ∀ q, K q = if q = i then f else R q) : Two w wi g c g' c' r n n' L K (wr.setCell ⟨g', i, none⟩ u) := by
  obtain ⟨vs, ho, hr⟩ := h.ro
  have hlo := own_lo h.ro g' rfl
  exact ⟨h.lo.far (p := ⟨g', i, none⟩) (fun e => h.ne (by simpa [Value.ownBlock] using e)) ho rfl, h.ro.put hi hu hK, h.ne, h.bel.setCell hlo _, h.oth.trans (Others.put (p := ⟨g', i, none⟩) ho rfl u)⟩
theorem Two.since (h : Two w wi g c g' c' r n n' L R wr) : Two w wr g c g' c' r n n' L R wr := ⟨h.lo, h.ro, h.ne, h.bel, Others.refl _⟩
end
end Go.Proofs.Ytebpaafofombaaa
