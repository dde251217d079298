/-
  STRUCTS IN BLOCKS OF THEIR OWN: a whole struct stored into a block; only that block turns; A DRAWN REGION ONE OF WHOSE OPERATIONS (a store) HITS WHAT THE REGION READS, and waits for those reads: the lo. (joined out of LibS, RegLate by shake.py)
-/
import Derived.Deep.MidRow
import Derived.Test.YthgiafjiemiifaaGreatRows
import Derived.Deep.RegionHeld3
import Derived.Test.YthgiafjiemiifaaGreatPbk01
section
namespace Go.Proofs.YthgiafjiemiifaaGreat
open Go.RowKit
set_option linter.unusedVariables false
/-- Nothing but block g has turned. -/
structure Only (g : Nat) (w w' : World) : Prop where
  os : w'.os = w.os
  tape : w'.tape = w.tape
  output : w'.output = w.output
  size : w'.heap.size = w.heap.size
  block : ∀ k, k ≠ g → w'.heap[k]? = w.heap[k]?
section
variable {g : Nat} {w w' w'' : World}
theorem Only.refl (g : Nat) (w : World) : Only g w w := ⟨rfl, rfl, rfl, rfl, fun _ _ => rfl⟩
theorem Only.trans (h : Only g w w') (k : Only g w' w'') : Only g w w'' := ⟨k.os.trans h.os, k.tape.trans h.tape, k.output.trans h.output, k.size.trans h.size, fun i hi => (k.block i hi).trans (h.block i hi)⟩
theorem Only.set_ (w : World) (g i : Nat) (u : Value) : Only g w (w.setCell ⟨g, i, none⟩ u) := ⟨rfl, rfl, rfl, by simp, fun k hk => heap_setCell_other w ⟨g, i, none⟩ k u hk⟩
theorem Only.below (h : Only g w w') {B : Nat} (hB : B ≤ g) : Below B w w' := ⟨h.os, h.tape, h.output, by rw [h.size]; exact Nat.le_refl _, fun k hk => h.block k (by omega)⟩
theorem Only.blk (h : Only g w w') {k : Nat} {t : TypeId} {cs : Array Value} (hB : Blk w k t cs) (hk : k ≠ g) : Blk w' k t cs := (h.block k hk).trans hB
theorem Only.grown (h : Only g w w') : w.grownBy w' (some g) := ⟨h.os, h.tape, h.output, by rw [h.size]; exact Nat.le_refl _, fun k _ hk => h.block k (fun e => hk (by rw [e]))⟩
theorem Only.own (h : Only g w w') {base size n : Nat} {t : TypeId} {v : Value} {xs : List Value} (ho : w.ownsRow base t size v n xs) (hne : v.ownBlock ≠ some g) : w'.ownsRow base t size v n xs := ho.kept h.grown (.inr hne)
theorem Only.cell (h : Only g w w') {p : Addr} (hp : p.block ≠ g) : w'.cell? p = w.cell? p := World.cell?_of_block (h.block p.block hp)
/-- What is read elsewhere is read still. -/
theorem Only.reads (h : Only g w w') {size n : Nat} {A : Option Addr} {xs : List Value} (hr : Reads w w.heap.size size A n xs) (hne : ∀ ad, A = some ad → ad.block ≠ g) : Reads w' w'.heap.size size A n xs := by
  refine ⟨hr.1, fun hn => ?_⟩
  obtain ⟨ad, e, hb, hc⟩ := hr.2 hn
  refine ⟨ad, e, by rw [h.size]; exact hb, fun j u hu => ?_⟩
  rw [h.cell (p := ad.add j) (by rw [block_of_add]; exact hne ad e)]
  exact hc j u hu
end
theorem setCells_blk (g : Nat) (t : TypeId) : ∀ (vs : List Value) (o : Nat) (w : World) (zs : Array Value), Blk w g t zs → o + vs.length ≤ zs.size →
    ∃ zs' : Array Value, Blk (w.setCells g o vs) g t zs' ∧ Only g w (w.setCells g o vs) ∧ zs'.size = zs.size ∧ (∀ i, i < o → zs'[i]? = zs[i]?) ∧ (∀ j, j < vs.length → zs'[o + j]? = vs[j]?) := by
  intro vs
  induction vs with
  | nil => intro o w zs h _; exact ⟨zs, h, Only.refl _ _, rfl, fun _ _ => rfl, fun j hj => by simp at hj⟩
  | cons v vs ih =>
    intro o w zs h hl
    simp only [List.length_cons] at hl
    obtain ⟨zs', h1, h2, h3, h4, h5⟩ := ih (o + 1) (w.setCell ⟨g, o, none⟩ v) (zs.setIfInBounds o v) (h.set_ o v) (by simp; omega)
    refine ⟨zs', h1, (Only.set_ w g o v).trans h2, by simpa using h3, fun i hi => ?_, fun j hj => ?_⟩
    · rw [h4 i (by omega), Array.getElem?_setIfInBounds_ne (by omega)]
    · cases j with
      | zero => rw [Nat.add_zero, h4 o (by omega), Array.getElem?_setIfInBounds_self_of_lt (by omega)]; rfl
      | succ j =>
        have := h5 j (by simpa using hj)
        rw [show o + (j + 1) = o + 1 + j by omega, this]
        simp
theorem setCells_whole {g : Nat} {t : TypeId} {w : World} {zs cs : Array Value} (h : Blk w g t zs) (hs : zs.size = cs.size) : Blk (w.setCells g 0 cs.toList) g t cs ∧ Only g w (w.setCells g 0 cs.toList) := by
  obtain ⟨zs', h1, h2, h3, _, h5⟩ := setCells_blk g t cs.toList 0 w zs h (by simp [hs])
  have e : zs' = cs := by
    apply Array.ext_getElem?
    intro i
    rcases Nat.lt_or_ge i cs.size with hi | hi
    · have := h5 i (by simpa using hi)
      rw [Nat.zero_add] at this
      rw [this]; simp
    · rw [Array.getElem?_eq_none (by omega), Array.getElem?_eq_none hi]
  rw [← e]
  exact ⟨by rw [e] at h1 ⊢; exact h1, by rw [e]; exact h2⟩
section
variable {P : Program} {ops : Array Oper} {rest : List Oper} {op : Oper} {a : Act} {w : World} {Q : Exit → Act → World → Prop} {K : Act → World → Prop}
theorem blk_there {g : Nat} {t : TypeId} {zs : Array Value} (h : Blk w g t zs) : w.there g 0 zs.size := fun j hj => by
  rw [Nat.zero_add, h.cell]
  exact ⟨by simp [hj], h.frozen j⟩
theorem wp_store_blk (ty : TypeId) (x y : Operand) (ho : op.op = .store ty x y) (g : Nat) (t : TypeId) (zs cs : Array Value) (hx : a.eval x = .pointer (some ⟨g, 0, none⟩)) (hy : a.eval y = .agg cs)
    (hB : Blk w g t zs) (hs : zs.size = cs.size) (hi : (P.info? ty).map (·.size) = some cs.size) (h1 : cs.toList.all (·.oneCell') = true) (h : ∀ w', Hid (Blk w' g t cs) → Hid (Only g w w') → K (a.put op.dst undef) w') : op.wp P a w K Q := by
  have e := setCells_whole hB hs
  exact wp_store_mid ty x y ho g 0 cs hx hy (by rw [← hs]; exact blk_there hB) hi (Array.all_eq_true_iff_forall_mem.2 (fun v hv => List.all_eq_true.1 h1 v (by simpa using hv))) (h _ (Lib.hid e.1) (Lib.hid e.2))
theorem wpl_store_blk (hgd : op.guard = none) (ty : TypeId) (x y : Operand) (ho : op.op = .store ty x y) (g : Nat) (t : TypeId) (zs cs : Array Value) (hx : a.eval x = .pointer (some ⟨g, 0, none⟩)) (hy : a.eval y = .agg cs)
    (hB : Blk w g t zs) (hs : zs.size = cs.size) (hi : (P.info? ty).map (·.size) = some cs.size) (h1 : cs.toList.all (·.oneCell') = true) (h : ∀ w', Hid (Blk w' g t cs) → Hid (Only g w w') → wpList P ops Q rest (a.put op.dst undef) w') : wpList P ops Q (op :: rest) a w :=
  wpList_plain hgd fun _ hK => wp_store_blk ty x y ho g t zs cs hx hy hB hs hi h1 fun w' k1 k2 => hK _ _ (h w' k1 k2)
theorem step_store_blk {E : Prop} (hgd : op.guard = none) (ty : TypeId) (x y : Operand) (ho : op.op = .store ty x y) (g : Nat) (t : TypeId) (zs cs : Array Value) (hx : a.eval x = .pointer (some ⟨g, 0, none⟩)) (hy : a.eval y = .agg cs)
    (hB : Blk w g t zs) (hs : zs.size = cs.size) (hi : (P.info? ty).map (·.size) = some cs.size) (h1 : cs.toList.all (·.oneCell') = true) (h : ∀ w', Hid (Blk w' g t cs) → Hid (Only g w w') → K (a.put op.dst undef) w') :
    if Region.wanted op (yielded ops a.tmps) = true then Oper.wp P op a w K Q else E := by
  have hw : Region.wanted op (yielded ops a.tmps) = true := by simp [Region.wanted, hgd]
  rw [if_pos hw]
  exact wp_store_blk ty x y ho g t zs cs hx hy hB hs hi h1 h
end
/-! ### Whole structs read -/
theorem load_blk {P : Program} {w : World} {g : Nat} {t ty : TypeId} {cs : Array Value} {d : TypeDesc} (hB : Blk w g t cs) (hu : P.underlying ty = some d) (hd : d.isRow = true) (hi : (P.info? ty).map (·.size) = some cs.size) :
    (loadVar ty ⟨g, 0, none⟩).run P w = .ok (.agg cs) w := by
  have h := run_loadVar_mid (P := P) w g 0 ty cs.toList d (fun j v hv => by rw [Nat.zero_add, hB.cell]; simpa using hv) hu hd (by simpa using hi)
  simpa using h
theorem wpl_load_blk {P : Program} {ops : Array Oper} {rest : List Oper} {op : Oper} {a : Act} {w : World} {Q : Exit → Act → World → Prop} (hgd : op.guard = none) (ty : TypeId) (x : Operand) (ho : op.op = .load ty x)
    (g : Nat) (t : TypeId) (cs : Array Value) (d : TypeDesc) (hx : a.eval x = .pointer (some ⟨g, 0, none⟩)) (hB : Blk w g t cs) (hu : P.underlying ty = some d) (hd : d.isRow = true) (hi : (P.info? ty).map (·.size) = some cs.size)
    (h : wpList P ops Q rest (a.put op.dst (.agg cs)) w) : wpList P ops Q (op :: rest) a w :=
  wpList_plain hgd fun _ hK => wp_load_mid ty x ho g 0 hx cs.toList d (fun j v hv => by rw [Nat.zero_add, hB.cell]; simpa using hv) hu hd (by simpa using hi) (hK _ _ (by simpa using h))
theorem yields_load_blk {P : Program} {ops : Array Oper} {S : World → Prop} {op : Oper} {a : Act} (hw : Region.wanted op (yielded ops a.tmps) = true) (ty : TypeId) (x : Operand) (ho : op.op = .load ty x)
    (g : Nat) (t : TypeId) (cs : Array Value) (d : TypeDesc) (hx : a.eval x = .pointer (some ⟨g, 0, none⟩)) (hS : ∀ w, S w → Blk w g t cs) (hu : P.underlying ty = some d) (hd : d.isRow = true) (hi : (P.info? ty).map (·.size) = some cs.size) :
    YieldsIf P ops S op (.agg cs) a :=
  .inl ⟨hw, fun w hw' => by
    unfold execOp
    simp only [ho, hx, Instr.loadAt, Instr.sureAddr, Sem.run_bind, Sem.run_pure, Result.andThen_ok, load_blk (hS w hw') hu hd hi]⟩
section
variable {P : Program} {w : World} {fn : Func} {tmps : Array Value} {a b c : Tmp} {ty ty' : TypeId} {p q : Addr} {cs cs' : Array Value} {v : Value}
theorem res_c (hr : fn.results = #[.cell a ty]) (ha : tmps.getD a undef = .pointer (some p)) (hl : (loadVar ty p).run P w = .ok (.agg cs) w) : (results fn tmps).run P w = .ok (.agg cs) w := by
  simp only [Array.getD_eq_getD_getElem?] at ha
  simp [results, hr, ha, asAddr, hl]
end
end Go.Proofs.YthgiafjiemiifaaGreat
end
section
namespace Go.Proofs.YthgiafjiemiifaaGreat
open Go
set_option linter.unusedVariables false
section
variable {P : Program} {l : List Oper} {md : Region.Mode} {Q : Exit → Act → World → Prop} {S0 S : World → Prop} {s : Nat}
/-- Whichever order is picked; S0 is shown behind each operation, S as long as number s has not come up. -/
def wpAnyT (P : Program) (md : Region.Mode) (l : List Oper) (Q : Exit → Act → World → Prop) (S0 S : World → Prop) (s : Nat) : Nat → Array Bool → Act → World → Prop
  | 0, listed, a, w => Region.ready md l.toArray listed = [] ∧ Q .normal a w
  | fuel + 1, listed, a, w =>
    (Region.ready md l.toArray listed = [] → Q .normal a w) ∧
    ∀ i ∈ Region.ready md l.toArray listed, wpOp P l.toArray Q i (fun a' w' => (S0 w' ∧ ((listed.setIfInBounds i true).getD s false = false → S w')) ∧ wpAnyT P md l Q S0 S s fuel (listed.setIfInBounds i true) a' w') a w
theorem wpAny_of_late : ∀ (fuel : Nat) (listed : Array Bool) (a : Act) (w : World), wpAnyT P md l Q S0 S s fuel listed a w → wpAny P md l.toArray Q fuel listed a w
  | 0, _, _, _, h => h
  | fuel + 1, _, _, _, h => ⟨h.1, fun i hi => wpOp_mono (fun a' w' h' => wpAny_of_late fuel _ a' w' h'.2) (h.2 i hi)⟩
/-- Which operations wait for number i, directly or through others (itself too). -/
def upB (md : Region.Mode) (l : List Oper) (i : Nat) : Nat → List Bool
  | 0 => []
  | k + 1 => upB md l i k ++ [k == i || (match l.toArray[k]? with | some o => o.after.any fun e => Region.binds md e && (upB md l i k).getD e.on false | none => false)]
theorem upB_len (i k : Nat) : (upB md l i k).length = k := by
  induction k with
  | zero => rfl
  | succ k ih => simp [upB, ih]
def Closed (md : Region.Mode) (l : List Oper) (listed : Array Bool) : Prop :=
  ∀ (j : Nat) oj, l.toArray[j]? = some oj → listed.getD j false = true → ∀ e ∈ oj.after, Region.binds md e = true → listed.getD e.on false = true
def closedB (md : Region.Mode) (l : List Oper) (listed : Array Bool) : Bool :=
  (List.range l.length).all fun j => match l.toArray[j]? with | some o => !listed.getD j false || o.after.all fun e => !Region.binds md e || listed.getD e.on false | none => true
theorem closedB_spec {listed : Array Bool} (h : closedB md l listed = true) : Closed md l listed := by
  intro j o ho hj e he hb
  have hlt : j < l.length := by simpa using (Array.getElem?_eq_some_iff.1 ho).1
  have h1 := List.all_eq_true.1 h j (List.mem_range.2 hlt)
  simp only [ho, hj, Bool.not_true, Bool.false_or] at h1
  have h2 := Array.all_eq_true_iff_forall_mem.1 h1 e he
  simpa [hb] using h2
theorem Closed.set {listed : Array Bool} (h : Closed md l listed) {i : Nat} (hi : i ∈ Region.ready md l.toArray listed) : Closed md l (listed.setIfInBounds i true) := by
  obtain ⟨_, oi, hoi, hall⟩ := mem_ready.1 hi
  intro j oj hj hl e he hb
  by_cases hij : i = j
  · subst hij
    have : oj = oi := Option.some.inj (hj.symm.trans hoi)
    subst this
    exact getD_set_true (hall e he hb)
  · rw [getD_set_ne false hij] at hl
    exact getD_set_true (h j oj hj hl e he hb)
theorem upB_spec {listed : Array Bool} (hc : Closed md l listed) {i : Nat} (hi : listed.getD i false = false) : ∀ k j, (upB md l i k).getD j false = true → listed.getD j false = false := by
  intro k
  induction k with
  | zero => intro j h; simp [upB] at h
  | succ k ih =>
    intro j h
    rw [upB, List.getD_eq_getElem?_getD] at h
    rcases Nat.lt_or_ge j k with hj | hj
    · rw [List.getElem?_append_left (by rw [upB_len]; exact hj), ← List.getD_eq_getElem?_getD] at h
      exact ih j h
    · rw [List.getElem?_append_right (by rw [upB_len]; exact hj), upB_len] at h
      by_cases e : j = k
      · subst e
        simp only [Nat.sub_self, List.getElem?_cons_zero, Option.getD_some, Bool.or_eq_true, beq_iff_eq] at h
        rcases h with h | h
        · rw [h]; exact hi
        · cases ho : l.toArray[j]? with
          | none => rw [ho] at h; cases h
          | some o =>
            rw [ho] at h
            obtain ⟨ed, he, h2⟩ := Array.any_eq_true'.1 h
            simp only [Bool.and_eq_true] at h2
            have h3 := ih ed.on h2.2
            cases hv : listed.getD j false with
            | false => rfl
            | true => rw [hc j o ho hv ed he h2.1] at h3; cases h3
      · rw [List.getElem?_eq_none (by simp; omega)] at h
        cases h
/-- An operation may be taken first, if it yields its value in every world that meets S1; S gives S1 as long as it has not come up. -/
theorem wpAnyT_first {i : Nat} {oi : Oper} {v : Value} (his : i ≠ s) (hi : l.toArray[i]? = some oi) (hsel : ∀ (j : Nat) (o : Oper) cs b, l.toArray[j]? = some o → o.op ≠ .select cs b)
    (hQ : ∀ c a w, Q (.panic c) (a.put oi.dst v) w → Q (.panic c) a w) (S1 : World → Prop) (hS1 : ∀ listed w, Closed md l listed → listed.getD i false = false → S0 w → (listed.getD s false = false → S w) → S1 w) :
    ∀ (fuel : Nat) (listed : Array Bool) (a : Act) (w : World), Closed md l listed →
      (∀ j oj, l.toArray[j]? = some oj → j ≠ i → listed.getD j true = false → (∀ e ∈ oj.after, Region.binds md e = true → e.on ≠ i) → oi.apart l.toArray oj = true) →
      i ∈ Region.ready md l.toArray listed → YieldsIf P l.toArray S1 oi v a → S0 w → (listed.getD s false = false → S w) →
      wpAnyT P md l Q S0 S s fuel (listed.setIfInBounds i true) (a.put oi.dst v) w → wpAnyT P md l Q S0 S s (fuel + 1) listed a w := by
  have un : ∀ {listed : Array Bool}, listed.getD i true = false → listed.getD i false = false := fun {listed} h => by
    rcases Nat.lt_or_ge i listed.size with h' | h'
    · simp [h'] at h ⊢; exact h
    · simp [Array.getElem?_eq_none h'] at h
  intro fuel
  induction fuel with
  | zero =>
    intro listed a w hc _ hr hy hS0 hS H
    refine ⟨fun h => (by rw [h] at hr; cases hr), fun j hj => ?_⟩
    by_cases hji : j = i
    · subst hji
      exact hy.wpOp hi (hS1 listed w hc (un (mem_ready.1 hr).1) hS0 hS) ⟨⟨hS0, fun h => hS (by rwa [getD_set_ne false his] at h)⟩, H⟩
    · have := ready_mono hj hji
      rw [H.1] at this
      cases this
  | succ fuel ih =>
    intro listed a w hc hfree hr hy hS0 hS H
    refine ⟨fun h => (by rw [h] at hr; cases hr), fun j hj => ?_⟩
    by_cases hji : j = i
    · subst hji; exact hy.wpOp hi (hS1 listed w hc (un (mem_ready.1 hr).1) hS0 hS) ⟨⟨hS0, fun h => hS (by rwa [getD_set_ne false his] at h)⟩, H⟩
    · have h1 := H.2 j (ready_mono hj hji)
      obtain ⟨hjun, oj, hoj, hall⟩ := mem_ready.1 hj
      have hnot : ∀ e ∈ oj.after, Region.binds md e = true → e.on ≠ i := fun e he hb heq => by
        have h1 := hall e he hb
        rw [heq, un (mem_ready.1 hr).1] at h1
        cases h1
      have h2 := wpOp_putIf hoj (hfree j oj hoj hji hjun hnot) (fun cs b => hsel i oi cs b hi) (fun cs b => hsel j oj cs b hoj) hQ hy h1
      have hfree' : ∀ k ok, l.toArray[k]? = some ok → k ≠ i → (listed.setIfInBounds j true).getD k true = false →
          (∀ e ∈ ok.after, Region.binds md e = true → e.on ≠ i) → oi.apart l.toArray ok = true := fun k ok hk hki hun hno => by
        refine hfree k ok hk hki ?_ hno
        by_cases hjk : j = k
        · subst hjk; exact hjun
        · rw [getD_set_ne true hjk] at hun; exact hun
      have comm : (listed.setIfInBounds i true).setIfInBounds j true = (listed.setIfInBounds j true).setIfInBounds i true := Array.setIfInBounds_comm _ _ (Ne.symm hji)
      refine wpOp_mono (fun a' w' h3 => ?_) h2
      obtain ⟨g1, ⟨g0, g2⟩, g3⟩ := h3
      rw [comm] at g2 g3
      have hlive : (listed.setIfInBounds j true).getD s false = false → S w' := fun h0 => g2 (by rw [getD_set_ne false his]; exact h0)
      exact ⟨⟨g0, hlive⟩, ih (listed.setIfInBounds j true) a' w' (hc.set hj) hfree' (ready_mono hr (Ne.symm hji)) g1 g0 hlive g3⟩
/-! ### The moves of a walk -/
theorem drop_get {i : Nat} {oi : Oper} {rest : List Oper} (h : l.drop i = oi :: rest) : l.toArray[i]? = some oi := by
  have := congrArg (·[0]?) h
  simpa using this
/-- Take number i, that reads (number s waits for it). -/
theorem wpAnyT_take (i : Nat) {oi : Oper} {rest : List Oper} {v : Value} {fuel : Nat} {listed : Array Bool} {a : Act} {w : World} (hd : l.drop i = oi :: rest)
    (hs : (Region.noSelect l.toArray && Region.free md l.toArray listed i && (Region.ready md l.toArray listed).contains i && closedB md l listed && (upB md l i l.length).getD s false && i != s && !listed.getD s false) = true)
    (hQ : ∀ c a w, Q (.panic c) (a.put oi.dst v) w → Q (.panic c) a w) (hy : YieldsIf P l.toArray S oi v a) (hS : S0 w ∧ S w)
    (h : wpAnyT P md l Q S0 S s fuel (listed.setIfInBounds i true) (a.put oi.dst v) w) : wpAnyT P md l Q S0 S s (fuel + 1) listed a w := by
  simp only [Bool.and_eq_true, bne_iff_ne, ne_eq, Bool.not_eq_true'] at hs
  obtain ⟨⟨⟨⟨⟨⟨h1, h2⟩, h3⟩, h4⟩, h5⟩, h6⟩, h7⟩ := hs
  exact wpAnyT_first h6 (drop_get hd) (Region.noSelect_spec h1) hQ S (fun listed' w' hc hu _ hl => hl (upB_spec hc hu _ _ h5)) fuel listed a w (closedB_spec h4) (Region.free_spec (drop_get hd) h2) (by simpa using h3) hy hS.1 (fun _ => hS.2) h
/-- Take number i, that reads what stays. -/
theorem wpAnyT_stay (i : Nat) {oi : Oper} {rest : List Oper} {v : Value} {fuel : Nat} {listed : Array Bool} {a : Act} {w : World} (hd : l.drop i = oi :: rest)
    (hs : (Region.noSelect l.toArray && Region.free md l.toArray listed i && (Region.ready md l.toArray listed).contains i && closedB md l listed && i != s) = true)
    (hQ : ∀ c a w, Q (.panic c) (a.put oi.dst v) w → Q (.panic c) a w) (hy : YieldsIf P l.toArray S0 oi v a) (hS : S0 w ∧ (listed.getD s false = false → S w))
    (h : wpAnyT P md l Q S0 S s fuel (listed.setIfInBounds i true) (a.put oi.dst v) w) : wpAnyT P md l Q S0 S s (fuel + 1) listed a w := by
  simp only [Bool.and_eq_true, bne_iff_ne, ne_eq] at hs
  obtain ⟨⟨⟨⟨h1, h2⟩, h3⟩, h4⟩, h6⟩ := hs
  exact wpAnyT_first h6 (drop_get hd) (Region.noSelect_spec h1) hQ _ (fun _ _ _ _ h0 _ => h0) fuel listed a w (closedB_spec h4) (Region.free_spec (drop_get hd) h2) (by simpa using h3) hy hS.1 hS.2 h
/-- One alone may come up: it is carried out, S is shown behind it. -/
theorem wpAnyT_one (i : Nat) {oi : Oper} {rest : List Oper} {fuel : Nat} {listed : Array Bool} {a : Act} {w : World} (hd : l.drop i = oi :: rest) (hr : Region.ready md l.toArray listed = [i])
    (h : ∀ K : Act → World → Prop, Shut (∀ a w, S0 w ∧ S w → (S0 w ∧ S w → wpAnyT P md l Q S0 S s fuel (listed.setIfInBounds i true) a w) → K a w) → if Region.wanted oi (yielded l.toArray a.tmps) = true then Oper.wp P oi a w K Q else K (a.put oi.dst undef) w) :
    wpAnyT P md l Q S0 S s (fuel + 1) listed a w := by
  refine ⟨fun h0 => (by rw [hr] at h0; cases h0), fun j hj => ?_⟩
  rw [hr] at hj
  obtain rfl : j = i := by simpa using hj
  exact wpOp_step (drop_get hd) (fun K hK => h K (fun a w hS hW => hK a w ⟨⟨hS.1, fun _ => hS.2⟩, hW hS⟩))
/-- The same, the late operation itself, or one behind it. -/
theorem wpAnyT_last (i : Nat) {oi : Oper} {rest : List Oper} {fuel : Nat} {listed : Array Bool} {a : Act} {w : World} (hd : l.drop i = oi :: rest) (hr : Region.ready md l.toArray listed = [i]) (hs : (listed.setIfInBounds i true).getD s false = true)
    (h : ∀ K : Act → World → Prop, Shut (∀ a w, S0 w → (S0 w → wpAnyT P md l Q S0 S s fuel (listed.setIfInBounds i true) a w) → K a w) → if Region.wanted oi (yielded l.toArray a.tmps) = true then Oper.wp P oi a w K Q else K (a.put oi.dst undef) w) :
    wpAnyT P md l Q S0 S s (fuel + 1) listed a w := by
  refine ⟨fun h0 => (by rw [hr] at h0; cases h0), fun j hj => ?_⟩
  rw [hr] at hj
  obtain rfl : j = i := by simpa using hj
  exact wpOp_step (drop_get hd) (fun K hK => h K (fun a w hS hW => hK a w ⟨⟨hS, fun h0 => absurd (h0.symm.trans hs) (by decide)⟩, hW hS⟩))
theorem wpAnyT_done {listed : Array Bool} {a : Act} {w : World} (hr : Region.ready md l.toArray listed = []) (h : Q .normal a w) : ∀ fuel, wpAnyT P md l Q S0 S s fuel listed a w
  | 0 => ⟨hr, h⟩
  | _ + 1 => ⟨fun _ => h, by rw [hr]; simp⟩
theorem wp_region_late {id : Nat} {a : Act} {w : World} (S0 S : World → Prop) (s n : Nat) (hm : P.follows .mixedOrders = true) (hn : l.length = n) (hS : S0 w.drew ∧ S w.drew)
    (h : ∀ wd, wd = w.drew → S0 wd ∧ S wd → wpAnyT P .any l Q S0 S s n (Array.replicate n false) a wd) : (Code.region id l.toArray true).wp P Q a w :=
  wp_region_any hm (by subst hn; simpa using wpAny_of_late _ _ _ _ (h _ rfl hS))
end
end Go.Proofs.YthgiafjiemiifaaGreat
end
