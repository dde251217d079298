/-
  TWO MATRICES WHOSE ROWS ARE WRITTEN IN PLACE: words for the reference's reduce.
-/
import Derived.Test.YtebpaafofombaaaMxT1
namespace Go.Proofs.Ytebpaafofombaaa
open Go.RowKit GfMath MxMath
set_option linter.unusedVariables false
structure ZM (base : Nat) (v : Value) (r n : Nat) (g c : Nat → Nat) (M : Mat) (wr : World) : Prop where
  own : wr.ownsRow base 22 1 v r ((List.range r).map fun i => .slice (some ⟨g i, 0, none⟩) n (c i))
  rows : ∀ i, i < r → RowAt base (g i) n (c i) (M i) wr
  inj : ∀ i j, i < r → j < r → g i = g j → i = j
section
variable {base r n : Nat} {v : Value} {g c : Nat → Nat} {M K : Mat} {w wr w' : World}
theorem ZM.later (h : ZM base v r n g c M wr) (hb : Below wr.heap.size wr w') : ZM base v r n g c M w' := ⟨own_below h.own hb, fun i hi => own_below (h.rows i hi) hb, h.inj⟩
theorem ZM.base_ {base' : Nat} (h : ZM base v r n g c M wr) (hb : base' ≤ base) : ZM base' v r n g c M wr := ⟨own_base h.own hb, fun i hi => own_base (h.rows i hi) hb, h.inj⟩
theorem ZM.congr (h : ZM base v r n g c M wr) (hk : ∀ i j, i < r → j < n → M i j = K i j) : ZM base v r n g c K wr := ⟨h.own, fun i hi => (h.rows i hi).congr (fun j hj => hk i j hi hj), h.inj⟩
theorem ZM.apart (h : ZM base v r n g c M wr) {q m cap : Nat} {f : Nat → El} {b : Nat} (hr : RowAt b q m cap f wr) : v.ownBlock ≠ some q := by
  obtain ⟨cs, hB⟩ := hr.blk
  exact own_blk_ne h.own hB (by decide)
theorem ZM.cell {go ca : Nat} (h : ZM base (.slice (some ⟨go, 0, none⟩) r ca) r n g c M wr) {i : Nat} (hi : i < r) : wr.cell? ⟨go, i, none⟩ = some (.slice (some ⟨g i, 0, none⟩) n (c i)) ∧ wr.frozen? ⟨go, i, none⟩ = false := by
  have := h.own.cellAt i (by omega)
  rw [List.getElem?_map, List.getElem?_range hi] at this
  exact ⟨this, h.own.frozenAt i⟩
theorem ZM.only {q : Nat} (h : ZM base v r n g c M wr) (ho : Only q wr w') (hv : v.ownBlock ≠ some q) (hg : ∀ i, i < r → g i ≠ q) : ZM base v r n g c M w' :=
  ⟨ho.own h.own hv, fun i hi => ho.own (h.rows i hi) (fun e => hg i hi (by simpa [Value.ownBlock] using e)), h.inj⟩
/-- One row is written in place. -/
theorem ZM.row (h : ZM base v r n g c M wr) {i : Nat} (hi : i < r) (ho : Only (g i) wr w') {f : Nat → El} (hr : RowAt base (g i) n (c i) f w') (hK : ∀ q, q < r → K q = if q = i then f else M q) : ZM base v r n g c K w' := by
  refine ⟨ho.own h.own (h.apart (h.rows i hi)), fun q hq => ?_, h.inj⟩
  by_cases e : q = i
  · subst e; rw [hK q hq, if_pos rfl]; exact hr
  · rw [hK q hq, if_neg e]
    exact ho.own (h.rows q hq) (fun e2 => e (h.inj q i hq hi (by simpa [Value.ownBlock] using e2)))
def sw (i d q : Nat) : Nat := if q = d then i else if q = i then d else q
theorem sw_lt {i d q r : Nat} (hi : i < r) (hd : d < r) (hq : q < r) : sw i d q < r := by unfold sw; split <;> (try split) <;> omega
theorem sw_inj {i d a b : Nat} (h : sw i d a = sw i d b) : a = b := by unfold sw at h; split at h <;> split at h <;> (try split at h) <;> (try split at h) <;> omega
theorem piv1_sw (i d : Nat) (M : Mat) (q : Nat) : piv1 i d M q = M (sw i d q) := by
  rw [piv1_row]; unfold sw; split
  · rfl
  · split <;> rfl
/-- Two rows are exchanged. -/
theorem ZM.swap {go ca : Nat} (h : ZM base (.slice (some ⟨go, 0, none⟩) r ca) r n g c M wr) {i d : Nat} (hi : i < r) (hd : d < r) :
    ZM base (.slice (some ⟨go, 0, none⟩) r ca) r n (fun q => g (sw i d q)) (fun q => c (sw i d q)) (piv1 i d M) ((wr.setCell ⟨go, i, none⟩ (.slice (some ⟨g d, 0, none⟩) n (c d))).setCell ⟨go, d, none⟩ (.slice (some ⟨g i, 0, none⟩) n (c i))) := by
  have hgo : ∀ q, q < r → g q ≠ go := fun q hq e => h.apart (h.rows q hq) (by rw [e]; rfl)
  refine ⟨?_, fun q hq => ?_, fun a b ha hb e => sw_inj (h.inj _ _ (sw_lt hi hd ha) (sw_lt hi hd hb) e)⟩
  · have h1 := (h.own.stored i (.slice (some ⟨g d, 0, none⟩) n (c d))).1
    have h2 := (h1.stored d (.slice (some ⟨g i, 0, none⟩) n (c i))).1
    have e : ((((List.range r).map fun q => Value.slice (some ⟨g q, 0, none⟩) n (c q)).set i (.slice (some ⟨g d, 0, none⟩) n (c d))).set d (.slice (some ⟨g i, 0, none⟩) n (c i))) = (List.range r).map fun q => .slice (some ⟨g (sw i d q), 0, none⟩) n (c (sw i d q)) := by
      apply List.ext_getElem?
      intro q
      rcases Nat.lt_or_ge q r with hq | hq
      · rw [List.getElem?_set, List.getElem?_set, List.getElem?_map, List.getElem?_map, List.getElem?_range hq]
        unfold sw
        by_cases e1 : q = d
        · subst e1; simp [hd]
        · by_cases e2 : q = i
          · subst e2; simp [Ne.symm e1, e1, hi]
          · simp [Ne.symm e1, Ne.symm e2, e1, e2]
      · rw [List.getElem?_eq_none (by simp; omega), List.getElem?_eq_none (by simp; omega)]
    rw [e] at h2
    exact h2
  · rw [piv1_sw]
    have h0 := h.rows _ (sw_lt hi hd hq)
    have hne := hgo _ (sw_lt hi hd hq)
    exact own_far (p := ⟨go, d, none⟩) (own_far (p := ⟨go, i, none⟩) h0 (fun e => hne (by simpa [Value.ownBlock] using e)) _) (fun e => hne (by simpa [Value.ownBlock] using e)) _
theorem ZM.far {go i : Nat} {u : Value} (h : ZM base v r n g c M wr) (hv : v.ownBlock ≠ some go) (hg : ∀ q, q < r → g q ≠ go) : ZM base v r n g c M (wr.setCell ⟨go, i, none⟩ u) :=
  ⟨own_far (p := ⟨go, i, none⟩) h.own hv _, fun q hq => own_far (p := ⟨go, i, none⟩) (h.rows q hq) (fun e => hg q hq (by simpa [Value.ownBlock] using e)) _, h.inj⟩
end
structure Z2 (w : World) (go ca go' ca' r n n' : Nat) (g c g' c' : Nat → Nat) (L R : Mat) (wr : World) : Prop where
  lo : ZM w.heap.size (.slice (some ⟨go, 0, none⟩) r ca) r n g c L wr
  ro : ZM w.heap.size (.slice (some ⟨go', 0, none⟩) r ca') r n' g' c' R wr
  ap : ∀ i j, i < r → j < r → g i ≠ g' j
  no : go ≠ go'
  bel : Below w.heap.size w wr
section
variable {w wr w' : World} {go ca go' ca' r n n' : Nat} {g c g' c' : Nat → Nat} {L R K : Mat}
theorem Z2.flip (h : Z2 w go ca go' ca' r n n' g c g' c' L R wr) : Z2 w go' ca' go ca r n' n g' c' g c R L wr := ⟨h.ro, h.lo, fun i j hi hj e => h.ap j i hj hi e.symm, fun e => h.no e.symm, h.bel⟩
theorem Z2.later (h : Z2 w go ca go' ca' r n n' g c g' c' L R wr) (hb : Below wr.heap.size wr w') : Z2 w go ca go' ca' r n n' g c g' c' L R w' := ⟨h.lo.later hb, h.ro.later hb, h.ap, h.no, h.bel.trans (hb.mono h.bel.size)⟩
theorem Z2.congr {K' : Mat} (h : Z2 w go ca go' ca' r n n' g c g' c' L R wr) (hk : ∀ i j, i < r → j < n → L i j = K i j) (hk' : ∀ i j, i < r → j < n' → R i j = K' i j) : Z2 w go ca go' ca' r n n' g c g' c' K K' wr := ⟨h.lo.congr hk, h.ro.congr hk', h.ap, h.no, h.bel⟩
theorem Z2.row (h : Z2 w go ca go' ca' r n n' g c g' c' L R wr) {i : Nat} (hi : i < r) (ho : Only (g i) wr w') {f : Nat → El} (hr : RowAt w.heap.size (g i) n (c i) f w') (hK : ∀ q, q < r → K q = if q = i then f else L q) : Z2 w go ca go' ca' r n n' g c g' c' K R w' :=
  ⟨h.lo.row hi ho hr hK, h.ro.only ho (h.ro.apart (h.lo.rows i hi)) (fun j hj e => h.ap i j hi hj e.symm), h.ap, h.no, h.bel.trans (ho.below (h.lo.rows i hi).lo)⟩
theorem Z2.row' (h : Z2 w go ca go' ca' r n n' g c g' c' L R wr) {i : Nat} (hi : i < r) (ho : Only (g' i) wr w') {f : Nat → El} (hr : RowAt w.heap.size (g' i) n' (c' i) f w') (hK : ∀ q, q < r → K q = if q = i then f else R q) : Z2 w go ca go' ca' r n n' g c g' c' L K w' := (h.flip.row hi ho hr hK).flip
theorem Z2.lo_go (h : Z2 w go ca go' ca' r n n' g c g' c' L R wr) : w.heap.size ≤ go := (h.lo.own.lt go rfl).1
theorem Z2.swap (h : Z2 w go ca go' ca' r n n' g c g' c' L R wr) {i d : Nat} (hi : i < r) (hd : d < r) :
    Z2 w go ca go' ca' r n n' (fun q => g (sw i d q)) (fun q => c (sw i d q)) g' c' (piv1 i d L) R ((wr.setCell ⟨go, i, none⟩ (.slice (some ⟨g d, 0, none⟩) n (c d))).setCell ⟨go, d, none⟩ (.slice (some ⟨g i, 0, none⟩) n (c i))) := by
  have hg' : ∀ q, q < r → g' q ≠ go := fun q hq e => h.lo.apart (h.ro.rows q hq) (by rw [e]; rfl)
  have hv : (Value.slice (some ⟨go', 0, none⟩) r ca').ownBlock ≠ some go := fun e => h.no (by simpa [Value.ownBlock] using e.symm)
  exact ⟨h.lo.swap hi hd, (h.ro.far hv hg').far hv hg', fun a b ha hb => h.ap _ _ (sw_lt hi hd ha) hb, h.no, (h.bel.setCell (p := ⟨go, i, none⟩) h.lo_go _).setCell (p := ⟨go, d, none⟩) h.lo_go _⟩
theorem Z2.swap' (h : Z2 w go ca go' ca' r n n' g c g' c' L R wr) {i d : Nat} (hi : i < r) (hd : d < r) :
    Z2 w go ca go' ca' r n n' g c (fun q => g' (sw i d q)) (fun q => c' (sw i d q)) L (piv1 i d R) ((wr.setCell ⟨go', i, none⟩ (.slice (some ⟨g' d, 0, none⟩) n' (c' d))).setCell ⟨go', d, none⟩ (.slice (some ⟨g' i, 0, none⟩) n' (c' i))) := (h.flip.swap hi hd).flip
end
theorem red_full {r : Nat} {s0 : St} {k : Nat} (h : (red r s0 k).d = r) : ∀ m, red r s0 (k + m) = red r s0 k := by
  intro m
  induction m with
  | zero => rfl
  | succ m ih =>
    show stp r (k + m) (red r s0 (k + m)) = _
    rw [ih]
    exact stp_none (fnz_not (fun q h1 h2 => by omega))
theorem inv_gpw (a : El) (h : a ≠ 0) : el (gpw a.v 254) = inv a := by
  apply El.ext'
  have hp := gpw_lt a.v 254
  rw [el_v hp, inv_v, ← gdv_ref (by decide) a.lt (fun e => h (El.ext' e)), gmul_comm (by decide) hp, gmul_one hp]
end Go.Proofs.Ytebpaafofombaaa
