/-
  Words for the walk of the reference's Nodes: three rows of whole numbers; a choice out of a row of members.
-/
import Derived.Test.YtmdffmajnbokeaaPlW7
namespace Go.Proofs.Ytmdffmajnbokeaa
open Go.RowKit StrMath PlMath
set_option linter.unusedVariables false
def Apart (u v : Value) : Prop := u.ownBlock = none ∨ u.ownBlock ≠ v.ownBlock
theorem Apart.symm {u v : Value} (h : Apart u v) : Apart v u := by
  unfold Apart at *
  rcases h with h | h
  · rw [h]
    cases e : v.ownBlock with
    | none => exact .inl rfl
    | some k => right; simp
  · exact .inr fun e => h e.symm
def IRow (w wr : World) (v : Value) (l : List Int) : Prop := wr.ownsRow w.heap.size 3 1 v l.length (l.map iv)
theorem own_below {w w' : World} {base size n : Nat} {t : TypeId} {v : Value} {xs : List Value} (h : w.ownsRow base t size v n xs) (hb : Below w.heap.size w w') : w'.ownsRow base t size v n xs := by
  refine ⟨h.1, ?_⟩
  rcases h.2 with h0 | ⟨g, cap, cur, hv, hg, hc, h1, h2, h3, h4⟩
  · exact .inl h0
  · have hlt : g < w.heap.size := by
      rcases Nat.lt_or_ge g w.heap.size with hlt | hge
      · exact hlt
      · rw [Array.getElem?_eq_none hge] at hc; cases hc
    exact .inr ⟨g, cap, cur, hv, hg, (hb.block g hlt).trans hc, h1, h2, h3, h4⟩
theorem own_lt {w : World} {base size n : Nat} {t : TypeId} {v : Value} {xs : List Value} (h : w.ownsRow base t size v n xs) {k : Nat} (hk : v.ownBlock = some k) : base ≤ k ∧ k < w.heap.size := h.lt k hk
theorem own_base' {w : World} {base base' : Nat} {e : TypeId} {size n : Nat} {v : Value} {xs : List Value} (h : w.ownsRow base e size v n xs) (hb : base' ≤ base) : w.ownsRow base' e size v n xs := by
  refine ⟨h.1, ?_⟩
  rcases h.2 with h0 | ⟨g, cap, cur, hv, hg, hr⟩
  · exact .inl h0
  · exact .inr ⟨g, cap, cur, hv, by omega, hr⟩
/-- What the reference's Nodes keeps: its box, ids, weights, what it has gathered. -/
structure RSta (w : World) (cs : Array Value) (vI vW vO : Value) (li lw lo : List Int) (wr : World) : Prop where
  bel : Below w.heap.size w wr
  rI : IRow w wr vI li
  rW : IRow w wr vW lw
  rO : IRow w wr vO lo
  aIW : Apart vI vW
  aIO : Apart vI vO
  aWO : Apart vW vO
  box : Blk wr w.heap.size 25 cs
section
variable {w wr wa w' : World} {cs : Array Value} {vI vW vO v v' u : Value} {li lw lo l : List Int}
theorem irow_nil (w wr : World) : IRow w wr (.slice none 0 0) [] := ⟨rfl, .inl ⟨rfl, rfl⟩⟩
theorem apart_nil (v : Value) : Apart (.slice none 0 0) v := .inl rfl
theorem IRow.kept (h : IRow w wa u l) (ha : Apart u v) (hg : wa.grownBy w' v.ownBlock) : IRow w w' u l := World.ownsRow.kept h hg ha
theorem Apart.new (h : IRow w wa u l) (ha : Apart u v) (hv : v'.ownBlock = v.ownBlock ∨ v'.ownBlock = some wa.heap.size) : Apart u v' := by
  rcases hv with hv | hv
  · unfold Apart; rw [hv]; exact ha
  · unfold Apart
    rw [hv]
    cases e : u.ownBlock with
    | none => exact .inl rfl
    | some k =>
      right
      have := (own_lt h e).2
      intro e2
      injection e2 with e2
      omega
theorem Apart.far (h : IRow w wr u l) (hv : ∀ k, v.ownBlock = some k → wr.heap.size ≤ k) : Apart u v := by
  unfold Apart
  cases e : u.ownBlock with
  | none => exact .inl rfl
  | some k =>
    right
    intro e2
    have h1 := (own_lt h e).2
    have h2 := hv k e2.symm
    omega
theorem RSta.alloc (h : RSta w cs vI vW vO li lw lo wr) (o : Obj) : RSta w cs vI vW vO li lw lo (wr.alloc o) :=
  ⟨h.bel.alloc h.bel.size o, h.rI.alloc o, h.rW.alloc o, h.rO.alloc o, h.aIW, h.aIO, h.aWO, h.box.alloc o⟩
theorem RSta.drewN (h : RSta w cs vI vW vO li lw lo wr) (d : Nat) : RSta w cs vI vW vO li lw lo (wr.drewN d) :=
  ⟨bel_drewN h.bel d, h.rI, h.rW, h.rO, h.aIW, h.aIO, h.aWO, h.box.drewN d⟩
theorem RSta.drew (h : RSta w cs vI vW vO li lw lo wr) : RSta w cs vI vW vO li lw lo wr.drew := h.drewN 1
theorem irow_snoc {y : Int} (h : w'.ownsRow w.heap.size 3 1 v' (l.length + 1) (l.map iv ++ [iv y])) : IRow w w' v' (l ++ [y]) := by
  unfold IRow; rw [List.length_append, List.map_append]; exact h
theorem RSta.appI {y : Int} (h : RSta w cs vI vW vO li lw lo wa) (hr : wa.heap.size = wa.heap.size → w'.ownsRow w.heap.size 3 1 v' (li.length + 1) (li.map iv ++ [iv y])) (hg : wa.grownBy w' vI.ownBlock) (hv : v'.ownBlock = vI.ownBlock ∨ v'.ownBlock = some wa.heap.size) :
    RSta w cs v' vW vO (li ++ [y]) lw lo w' :=
  ⟨bel_grown_own h.bel h.bel.size h.rI hg, irow_snoc (hr rfl), h.rW.kept h.aIW.symm hg, h.rO.kept h.aIO.symm hg, (Apart.new h.rW h.aIW.symm hv).symm, (Apart.new h.rO h.aIO.symm hv).symm, h.aWO, h.box.grown hg (fun e => own_blk_ne h.rI h.box (by decide) e.symm)⟩
theorem RSta.appW {y : Int} (h : RSta w cs vI vW vO li lw lo wa) (hr : wa.heap.size = wa.heap.size → w'.ownsRow w.heap.size 3 1 v' (lw.length + 1) (lw.map iv ++ [iv y])) (hg : wa.grownBy w' vW.ownBlock) (hv : v'.ownBlock = vW.ownBlock ∨ v'.ownBlock = some wa.heap.size) :
    RSta w cs vI v' vO li (lw ++ [y]) lo w' :=
  ⟨bel_grown_own h.bel h.bel.size h.rW hg, h.rI.kept h.aIW hg, irow_snoc (hr rfl), h.rO.kept h.aWO.symm hg, Apart.new h.rI h.aIW hv, h.aIO, (Apart.new h.rO h.aWO.symm hv).symm, h.box.grown hg (fun e => own_blk_ne h.rW h.box (by decide) e.symm)⟩
theorem RSta.appO {y : Int} (h : RSta w cs vI vW vO li lw lo wa) (hr : wa.heap.size = wa.heap.size → w'.ownsRow w.heap.size 3 1 v' (lo.length + 1) (lo.map iv ++ [iv y])) (hg : wa.grownBy w' vO.ownBlock) (hv : v'.ownBlock = vO.ownBlock ∨ v'.ownBlock = some wa.heap.size) :
    RSta w cs vI vW v' li lw (lo ++ [y]) w' :=
  ⟨bel_grown_own h.bel h.bel.size h.rO hg, h.rI.kept h.aIO hg, h.rW.kept h.aWO hg, irow_snoc (hr rfl), h.aIW, Apart.new h.rI h.aIO hv, Apart.new h.rW h.aWO hv, h.box.grown hg (fun e => own_blk_ne h.rO h.box (by decide) e.symm)⟩
theorem RSta.newI {li' : List Int} (h : RSta w cs vI vW vO li lw lo wr) (hb : Below wr.heap.size wr w') (hr : w'.ownsRow wr.heap.size 3 1 v' li'.length (li'.map iv)) : RSta w cs v' vW vO li' lw lo w' :=
  ⟨h.bel.trans (hb.mono h.bel.size), own_base' hr h.bel.size, own_below h.rW hb, own_below h.rO hb, (Apart.far h.rW fun k hk => (own_lt hr hk).1).symm, (Apart.far h.rO fun k hk => (own_lt hr hk).1).symm, h.aWO, h.box.below hb h.box.lt⟩
theorem RSta.newW {lw' : List Int} (h : RSta w cs vI vW vO li lw lo wr) (hb : Below wr.heap.size wr w') (hr : w'.ownsRow wr.heap.size 3 1 v' lw'.length (lw'.map iv)) : RSta w cs vI v' vO li lw' lo w' :=
  ⟨h.bel.trans (hb.mono h.bel.size), own_below h.rI hb, own_base' hr h.bel.size, own_below h.rO hb, Apart.far h.rI fun k hk => (own_lt hr hk).1, h.aIO, (Apart.far h.rO fun k hk => (own_lt hr hk).1).symm, h.box.below hb h.box.lt⟩
end
/-! ### A choice out of a row of members -/
theorem getD_map_fst (R : List Mem) (k : Nat) : (R.map (·.1)).getD k 0 = (R.getD k (0, 0)).1 := by
  rw [List.getD_eq_getElem?_getD, List.getElem?_map, List.getD_eq_getElem?_getD]
  cases R[k]? <;> rfl
theorem getD_map_snd (R : List Mem) (k : Nat) : (R.map (·.2)).getD k 0 = (R.getD k (0, 0)).2 := by
  rw [List.getD_eq_getElem?_getD, List.getElem?_map, List.getD_eq_getElem?_getD]
  cases R[k]? <;> rfl
theorem rpick {R : List Mem} (hU : Up R) (g r : Nat) {x : Mem} (hx : Best (cF g) r R x) : ∃ i, i < R.length ∧ pick (R.map (·.1)) (R.map (·.2)) g r R.length = ((i : Int), cF g r x) ∧ R.getD i (0, 0) = x := by
  have hget : ∀ k, k < R.length → R.getD k (0, 0) ∈ R := fun k hk => by rw [List.getD_eq_getElem?_getD, List.getElem?_eq_getElem hk]; exact List.getElem_mem hk
  have hact : ∀ k, k < R.length → (act (R.map (·.2)) k = true ↔ (R.getD k (0, 0)).2 ≠ 0) := fun k hk => by
    have := hU.2 _ (hget k hk)
    unfold act
    rw [getD_map_snd, decide_eq_true_eq]
    omega
  have hcst : ∀ k, k < R.length → cst (R.map (·.1)) (R.map (·.2)) g r k = cF g r (R.getD k (0, 0)) := fun k hk => by
    have := hU.2 _ (hget k hk)
    unfold cst cF
    rw [getD_map_fst, getD_map_snd]
    congr 2
    omega
  have hinc : ∀ i j, i < j → j < R.length → (R.getD i (0, 0)).1 < (R.getD j (0, 0)).1 := fun i j hij hj => by
    have := List.pairwise_iff_getElem.1 hU.1 i j (by omega) hj hij
    rw [List.getD_eq_getElem?_getD, List.getD_eq_getElem?_getD, List.getElem?_eq_getElem (by omega), List.getElem?_eq_getElem hj]
    exact this
  obtain ⟨kx, hkx, ekx⟩ := List.mem_iff_getElem.1 hx.1
  have ekx' : R.getD kx (0, 0) = x := by rw [List.getD_eq_getElem?_getD, List.getElem?_eq_getElem hkx, ekx]; rfl
  rcases pk_spec (act (R.map (·.2))) (cst (R.map (·.1)) (R.map (·.2)) g r) R.length with ⟨_, h2⟩ | ⟨i, hi, h1, h2, h3, h4⟩
  · have := (hact kx hkx).2 (by rw [ekx']; exact hx.2.1)
    rw [h2 kx hkx] at this
    cases this
  · have hb : Best (cF g) r R (R.getD i (0, 0)) := by
      refine ⟨hget i hi, (hact i hi).1 h2, fun y hy h0 => ?_⟩
      obtain ⟨k, hk, ek⟩ := List.mem_iff_getElem.1 hy
      have ek' : R.getD k (0, 0) = y := by rw [List.getD_eq_getElem?_getD, List.getElem?_eq_getElem hk, ek]; rfl
      have ha : act (R.map (·.2)) k = true := (hact k hk).2 (by rw [ek']; exact h0)
      unfold Lt
      have e1 := h4 k hk ha
      rw [hcst i hi, hcst k hk, ek'] at e1
      rcases Nat.lt_trichotomy k i with h5 | h5 | h5
      · have e2 := h3 k h5 ha
        rw [hcst i hi, hcst k hk, ek'] at e2
        omega
      · rw [h5] at ek'
        rw [ek']; omega
      · have := hinc i k h5 hk
        rw [ek'] at this
        omega
    have e := Best.uniq hU hb hx
    refine ⟨i, hi, ?_, e⟩
    unfold pick
    rw [h1, hcst i hi, e]
theorem filter_erase {R : List Mem} (hU : Up R) (i : Nat) (hi : i < R.length) : R.filter (fun x => decide (x.1 ≠ (R.getD i (0, 0)).1)) = R.take i ++ R.drop (i + 1) := by
  have hp := List.pairwise_iff_getElem.1 hU.1
  have e0 : R = R.take i ++ (R[i] :: R.drop (i + 1)) := by rw [← List.drop_eq_getElem_cons hi, List.take_append_drop]
  have eg : R.getD i (0, 0) = R[i] := by rw [List.getD_eq_getElem?_getD, List.getElem?_eq_getElem hi]; rfl
  rw [eg]
  have h1 : (R.take i).filter (fun x => decide (x.1 ≠ R[i].1)) = R.take i := List.filter_eq_self.2 fun x hx => by
    obtain ⟨k, hk, ek⟩ := List.mem_iff_getElem.1 hx
    have hk' : k < i := by rw [List.length_take] at hk; omega
    rw [List.getElem_take] at ek
    have := hp k i (by omega) hi hk'
    rw [ek] at this
    simp; omega
  have h2 : (R.drop (i + 1)).filter (fun x => decide (x.1 ≠ R[i].1)) = R.drop (i + 1) := List.filter_eq_self.2 fun x hx => by
    obtain ⟨k, hk, ek⟩ := List.mem_iff_getElem.1 hx
    rw [List.getElem_drop] at ek
    rw [List.length_drop] at hk
    have := hp i (i + 1 + k) hi (by omega) (by omega)
    rw [ek] at this
    simp; omega
  refine (congrArg (List.filter fun x => decide (x.1 ≠ R[i].1)) e0).trans ?_
  rw [List.filter_append, h1, List.filter_cons_of_neg (by simp), h2]
end Go.Proofs.Ytmdffmajnbokeaa
