/-
  STRUCTS IN BLOCKS OF THEIR OWN: a whole struct stored into a block; only that block turns.
-/
import Derived.Test.YthgiafjiemiifaaLib
import Derived.Deep.MidRow
namespace Go.Proofs.Ythgiafjiemiifaa
open Go.RowKit
set_option linter.unusedVariables false
/-- Nothing but block g has turned. -/
structure Only (g : Nat) (w w' : World) : Prop where
  os : w'.os = w.os
  tape : w'.tape = w.tape
  output : w'.output = w.output
  size : w'.heap.size = w.heap.size
  block : ∀ k, k ≠ g → w'.heap[k]? = w.heap[k]?
section
variable {g : Nat} {w w' w'' : World}
theorem Only.refl (g : Nat) (w : World) : Only g w w := ⟨rfl, rfl, rfl, rfl, fun _ _ => rfl⟩
theorem Only.trans (h : Only g w w') (k : Only g w' w'') : Only g w w'' := ⟨k.os.trans h.os, k.tape.trans h.tape, k.output.trans h.output, k.size.trans h.size, fun i hi => (k.block i hi).trans (h.block i hi)⟩
theorem Only.set_ (w : World) (g i : Nat) (u : Value) : Only g w (w.setCell ⟨g, i, none⟩ u) := ⟨rfl, rfl, rfl, by simp, fun k hk => heap_setCell_other w ⟨g, i, none⟩ k u hk⟩
theorem Only.below (h : Only g w w') {B : Nat} (hB : B ≤ g) : Below B w w' := ⟨h.os, h.tape, h.output, by rw [h.size]; exact Nat.le_refl _, fun k hk => h.block k (by omega)⟩
theorem Only.blk (h : Only g w w') {k : Nat} {t : TypeId} {cs : Array Value} (hB : Blk w k t cs) (hk : k ≠ g) : Blk w' k t cs := (h.block k hk).trans hB
theorem Only.grown (h : Only g w w') : w.grownBy w' (some g) := ⟨h.os, h.tape, h.output, by rw [h.size]; exact Nat.le_refl _, fun k _ hk => h.block k (fun e => hk (by rw [e]))⟩
theorem Only.own (h : Only g w w') {base size n : Nat} {t : TypeId} {v : Value} {xs : List Value} (ho : w.ownsRow base t size v n xs) (hne : v.ownBlock ≠ some g) : w'.ownsRow base t size v n xs := ho.kept h.grown (.inr hne)
theorem Only.cell (h : Only g w w') {p : Addr} (hp : p.block ≠ g) : w'.cell? p = w.cell? p := World.cell?_of_block (h.block p.block hp)
/-- What is read elsewhere is read still. -/
theorem Only.reads (h : Only g w w') {size n : Nat} {A : Option Addr} {xs : List Value} (hr : Reads w w.heap.size size A n xs) (hne : ∀ ad, A = some ad → ad.block ≠ g) : Reads w' w'.heap.size size A n xs := by
  refine ⟨hr.1, fun hn => ?_⟩
  obtain ⟨ad, e, hb, hc⟩ := hr.2 hn
  refine ⟨ad, e, by rw [h.size]; exact hb, fun j u hu => ?_⟩
  rw [h.cell (p := ad.add j) (by rw [block_of_add]; exact hne ad e)]
  exact hc j u hu
end
theorem setCells_blk (g : Nat) (t : TypeId) : ∀ (vs : List Value) (o : Nat) (w : World) (zs : Array Value), Blk w g t zs → o + vs.length ≤ zs.size →
    ∃ zs' : Array Value, Blk (w.setCells g o vs) g t zs' ∧ Only g w (w.setCells g o vs) ∧ zs'.size = zs.size ∧ (∀ i, i < o → zs'[i]? = zs[i]?) ∧ (∀ j, j < vs.length → zs'[o + j]? = vs[j]?) := by
  intro vs
  induction vs with
  | nil => intro o w zs h _; exact ⟨zs, h, Only.refl _ _, rfl, fun _ _ => rfl, fun j hj => by simp at hj⟩
  | cons v vs ih =>
    intro o w zs h hl
    simp only [List.length_cons] at hl
    obtain ⟨zs', h1, h2, h3, h4, h5⟩ := ih (o + 1) (w.setCell ⟨g, o, none⟩ v) (zs.setIfInBounds o v) (h.set_ o v) (by simp; omega)
    refine ⟨zs', h1, (Only.set_ w g o v).trans h2, by simpa using h3, fun i hi => ?_, fun j hj => ?_⟩
    · rw [h4 i (by omega), Array.getElem?_setIfInBounds_ne (by omega)]
    · cases j with
      | zero => rw [Nat.add_zero, h4 o (by omega), Array.getElem?_setIfInBounds_self_of_lt (by omega)]; rfl
      | succ j =>
        have := h5 j (by simpa using hj)
        rw [show o + (j + 1) = o + 1 + j by omega, this]
        simp
theorem setCells_whole {g : Nat} {t : TypeId} {w : World} {zs cs : Array Value} (h : Blk w g t zs) (hs : zs.size = cs.size) : Blk (w.setCells g 0 cs.toList) g t cs ∧ Only g w (w.setCells g 0 cs.toList) := by
  obtain ⟨zs', h1, h2, h3, _, h5⟩ := setCells_blk g t cs.toList 0 w zs h (by simp [hs])
  have e : zs' = cs := by
    apply Array.ext_getElem?
    intro i
    rcases Nat.lt_or_ge i cs.size with hi | hi
    · have := h5 i (by simpa using hi)
      rw [Nat.zero_add] at this
      rw [this]; simp
    · rw [Array.getElem?_eq_none (by omega), Array.getElem?_eq_none hi]
  rw [← e]
  exact ⟨by rw [e] at h1 ⊢; exact h1, by rw [e]; exact h2⟩
section
variable {P : Program} {ops : Array Oper} {rest : List Oper} {op : Oper} {a : Act} {w : World} {Q : Exit → Act → World → Prop} {K : Act → World → Prop}
theorem blk_there {g : Nat} {t : TypeId} {zs : Array Value} (h : Blk w g t zs) : w.there g 0 zs.size := fun j hj => by
  rw [Nat.zero_add, h.cell]
  exact ⟨by simp [hj], h.frozen j⟩
theorem wp_store_blk (ty : TypeId) (x y : Operand) (ho : op.op = .store ty x y) (g : Nat) (t : TypeId) (zs cs : Array Value) (hx : a.eval x = .pointer (some ⟨g, 0, none⟩)) (hy : a.eval y = .agg cs)
    (hB : Blk w g t zs) (hs : zs.size = cs.size) (hi : (P.info? ty).map (·.size) = some cs.size) (h1 : cs.toList.all (·.oneCell') = true) (h : ∀ w', Hid (Blk w' g t cs) → Hid (Only g w w') → K (a.put op.dst undef) w') : op.wp P a w K Q := by
  have e := setCells_whole hB hs
  exact wp_store_mid ty x y ho g 0 cs hx hy (by rw [← hs]; exact blk_there hB) hi (Array.all_eq_true_iff_forall_mem.2 (fun v hv => List.all_eq_true.1 h1 v (by simpa using hv))) (h _ (Lib.hid e.1) (Lib.hid e.2))
theorem wpl_store_blk (hgd : op.guard = none) (ty : TypeId) (x y : Operand) (ho : op.op = .store ty x y) (g : Nat) (t : TypeId) (zs cs : Array Value) (hx : a.eval x = .pointer (some ⟨g, 0, none⟩)) (hy : a.eval y = .agg cs)
    (hB : Blk w g t zs) (hs : zs.size = cs.size) (hi : (P.info? ty).map (·.size) = some cs.size) (h1 : cs.toList.all (·.oneCell') = true) (h : ∀ w', Hid (Blk w' g t cs) → Hid (Only g w w') → wpList P ops Q rest (a.put op.dst undef) w') : wpList P ops Q (op :: rest) a w :=
  wpList_plain hgd fun _ hK => wp_store_blk ty x y ho g t zs cs hx hy hB hs hi h1 fun w' k1 k2 => hK _ _ (h w' k1 k2)
theorem step_store_blk {E : Prop} (hgd : op.guard = none) (ty : TypeId) (x y : Operand) (ho : op.op = .store ty x y) (g : Nat) (t : TypeId) (zs cs : Array Value) (hx : a.eval x = .pointer (some ⟨g, 0, none⟩)) (hy : a.eval y = .agg cs)
    (hB : Blk w g t zs) (hs : zs.size = cs.size) (hi : (P.info? ty).map (·.size) = some cs.size) (h1 : cs.toList.all (·.oneCell') = true) (h : ∀ w', Hid (Blk w' g t cs) → Hid (Only g w w') → K (a.put op.dst undef) w') :
    if Region.wanted op (yielded ops a.tmps) = true then Oper.wp P op a w K Q else E := by
  have hw : Region.wanted op (yielded ops a.tmps) = true := by simp [Region.wanted, hgd]
  rw [if_pos hw]
  exact wp_store_blk ty x y ho g t zs cs hx hy hB hs hi h1 h
end
/-! ### Whole structs read -/
theorem load_blk {P : Program} {w : World} {g : Nat} {t ty : TypeId} {cs : Array Value} {d : TypeDesc} (hB : Blk w g t cs) (hu : P.underlying ty = some d) (hd : d.isRow = true) (hi : (P.info? ty).map (·.size) = some cs.size) :
    (loadVar ty ⟨g, 0, none⟩).run P w = .ok (.agg cs) w := by
  have h := run_loadVar_mid (P := P) w g 0 ty cs.toList d (fun j v hv => by rw [Nat.zero_add, hB.cell]; simpa using hv) hu hd (by simpa using hi)
  simpa using h
theorem wpl_load_blk {P : Program} {ops : Array Oper} {rest : List Oper} {op : Oper} {a : Act} {w : World} {Q : Exit → Act → World → Prop} (hgd : op.guard = none) (ty : TypeId) (x : Operand) (ho : op.op = .load ty x)
    (g : Nat) (t : TypeId) (cs : Array Value) (d : TypeDesc) (hx : a.eval x = .pointer (some ⟨g, 0, none⟩)) (hB : Blk w g t cs) (hu : P.underlying ty = some d) (hd : d.isRow = true) (hi : (P.info? ty).map (·.size) = some cs.size)
    (h : wpList P ops Q rest (a.put op.dst (.agg cs)) w) : wpList P ops Q (op :: rest) a w :=
  wpList_plain hgd fun _ hK => wp_load_mid ty x ho g 0 hx cs.toList d (fun j v hv => by rw [Nat.zero_add, hB.cell]; simpa using hv) hu hd (by simpa using hi) (hK _ _ (by simpa using h))
theorem yields_load_blk {P : Program} {ops : Array Oper} {S : World → Prop} {op : Oper} {a : Act} (hw : Region.wanted op (yielded ops a.tmps) = true) (ty : TypeId) (x : Operand) (ho : op.op = .load ty x)
    (g : Nat) (t : TypeId) (cs : Array Value) (d : TypeDesc) (hx : a.eval x = .pointer (some ⟨g, 0, none⟩)) (hS : ∀ w, S w → Blk w g t cs) (hu : P.underlying ty = some d) (hd : d.isRow = true) (hi : (P.info? ty).map (·.size) = some cs.size) :
    YieldsIf P ops S op (.agg cs) a :=
  .inl ⟨hw, fun w hw' => by
    unfold execOp
    simp only [ho, hx, Instr.loadAt, Instr.sureAddr, Sem.run_bind, Sem.run_pure, Result.andThen_ok, load_blk (hS w hw') hu hd hi]⟩
section
variable {P : Program} {w : World} {fn : Func} {tmps : Array Value} {a b c : Tmp} {ty ty' : TypeId} {p q : Addr} {cs cs' : Array Value} {v : Value}
theorem res_c (hr : fn.results = #[.cell a ty]) (ha : tmps.getD a undef = .pointer (some p)) (hl : (loadVar ty p).run P w = .ok (.agg cs) w) : (results fn tmps).run P w = .ok (.agg cs) w := by
  simp only [Array.getD_eq_getD_getElem?] at ha
  simp [results, hr, ha, asAddr, hl]
theorem res_ct (hr : fn.results = #[.cell a ty, .tmp b]) (ha : tmps.getD a undef = .pointer (some p)) (hb : tmps.getD b undef = v) (hl : (loadVar ty p).run P w = .ok (.agg cs) w) : (results fn tmps).run P w = .ok (.tuple #[.agg cs, v]) w := by
  simp only [Array.getD_eq_getD_getElem?] at ha hb
  simp [results, hr, ha, hb, asAddr, hl]
theorem res_cct (hr : fn.results = #[.cell a ty, .cell b ty', .tmp c]) (ha : tmps.getD a undef = .pointer (some p)) (hb : tmps.getD b undef = .pointer (some q)) (hc : tmps.getD c undef = v) (hl : (loadVar ty p).run P w = .ok (.agg cs) w) (hl' : (loadVar ty' q).run P w = .ok (.agg cs') w) :
    (results fn tmps).run P w = .ok (.tuple #[.agg cs, .agg cs', v]) w := by
  simp only [Array.getD_eq_getD_getElem?] at ha hb hc
  simp [results, hr, ha, hb, hc, asAddr, hl, hl']
theorem res_ctc (hr : fn.results = #[.cell a ty, .tmp b, .cell c ty']) (ha : tmps.getD a undef = .pointer (some p)) (hb : tmps.getD b undef = v) (hc : tmps.getD c undef = .pointer (some q)) (hl : (loadVar ty p).run P w = .ok (.agg cs) w) (hl' : (loadVar ty' q).run P w = .ok (.agg cs') w) :
    (results fn tmps).run P w = .ok (.tuple #[.agg cs, v, .agg cs']) w := by
  simp only [Array.getD_eq_getD_getElem?] at ha hb hc
  simp [results, hr, ha, hb, hc, asAddr, hl, hl']
end
end Go.Proofs.Ythgiafjiemiifaa
