/-
  A DRAWN REGION ONE OF WHOSE OPERATIONS (a store) HITS WHAT THE REGION READS, and waits for those reads: the lo. (joined out of RegLate by shake.py)
-/
import Derived.Test.YtlnneacgllhdhaaGreatDoorRows
import Derived.Deep.RegionHeld3
section
namespace Go.Proofs.YtlnneacgllhdhaaGreatDoor
open Go
set_option linter.unusedVariables false
section
variable {P : Program} {l : List Oper} {md : Region.Mode} {Q : Exit → Act → World → Prop} {S0 S : World → Prop} {s : Nat}
def wpAnyT (P : Program) (md : Region.Mode) (l : List Oper) (Q : Exit → Act → World → Prop) (S0 S : World → Prop) (s : Nat) : Nat → Array Bool → Act → World → Prop
  | 0, listed, a, w => Region.ready md l.toArray listed = [] ∧ Q .normal a w
  | fuel + 1, listed, a, w =>
    (Region.ready md l.toArray listed = [] → Q .normal a w) ∧
    ∀ i ∈ Region.ready md l.toArray listed, wpOp P l.toArray Q i (fun a' w' => (S0 w' ∧ ((listed.setIfInBounds i true).getD s false = false → S w')) ∧ wpAnyT P md l Q S0 S s fuel (listed.setIfInBounds i true) a' w') a w
theorem wpAny_of_late : ∀ (fuel : Nat) (listed : Array Bool) (a : Act) (w : World), wpAnyT P md l Q S0 S s fuel listed a w → wpAny P md l.toArray Q fuel listed a w
  | 0, _, _, _, h => h
  | fuel + 1, _, _, _, h => ⟨h.1, fun i hi => wpOp_mono (fun a' w' h' => wpAny_of_late fuel _ a' w' h'.2) (h.2 i hi)⟩
def upB (md : Region.Mode) (l : List Oper) (i : Nat) : Nat → List Bool
  | 0 => []
  | k + 1 => upB md l i k ++ [k == i || (match l.toArray[k]? with | some o => o.after.any fun e => Region.binds md e && (upB md l i k).getD e.on false | none => false)]
theorem upB_len (i k : Nat) : (upB md l i k).length = k := by
  induction k with
  | zero => rfl
  | succ k ih => simp [upB, ih]
def Closed (md : Region.Mode) (l : List Oper) (listed : Array Bool) : Prop :=
  ∀ (j : Nat) oj, l.toArray[j]? = some oj → listed.getD j false = true → ∀ e ∈ oj.after, Region.binds md e = true → listed.getD e.on false = true
def closedB (md : Region.Mode) (l : List Oper) (listed : Array Bool) : Bool :=
  (List.range l.length).all fun j => match l.toArray[j]? with | some o => !listed.getD j false || o.after.all fun e => !Region.binds md e || listed.getD e.on false | none => true
theorem closedB_spec {listed : Array Bool} (h : closedB md l listed = true) : Closed md l listed := by
  intro j o ho hj e he hb
  have hlt : j < l.length := by simpa using (Array.getElem?_eq_some_iff.1 ho).1
  have h1 := List.all_eq_true.1 h j (List.mem_range.2 hlt)
  simp only [ho, hj, Bool.not_true, Bool.false_or] at h1
  have h2 := Array.all_eq_true_iff_forall_mem.1 h1 e he
  simpa [hb] using h2
theorem Closed.set {listed : Array Bool} (h : Closed md l listed) {i : Nat} (hi : i ∈ Region.ready md l.toArray listed) : Closed md l (listed.setIfInBounds i true) := by
  obtain ⟨_, oi, hoi, hall⟩ := mem_ready.1 hi
  intro j oj hj hl e he hb
  by_cases hij : i = j
  · subst hij
    have : oj = oi := Option.some.inj (hj.symm.trans hoi)
    subst this
    exact getD_set_true (hall e he hb)
  · rw [getD_set_ne false hij] at hl
    exact getD_set_true (h j oj hj hl e he hb)
theorem upB_spec {listed : Array Bool} (hc : Closed md l listed) {i : Nat} (hi : listed.getD i false = false) : ∀ k j, (upB md l i k).getD j false = true → listed.getD j false = false := by
  intro k
  induction k with
  | zero => intro j h; simp [upB] at h
  | succ k ih =>
    intro j h
    rw [upB, List.getD_eq_getElem?_getD] at h
    rcases Nat.lt_or_ge j k with hj | hj
    · rw [List.getElem?_append_left (by rw [upB_len]; exact hj), ← List.getD_eq_getElem?_getD] at h
      exact ih j h
    · rw [List.getElem?_append_right (by rw [upB_len]; exact hj), upB_len] at h
      by_cases e : j = k
      · subst e
        simp only [Nat.sub_self, List.getElem?_cons_zero, Option.getD_some, Bool.or_eq_true, beq_iff_eq] at h
        rcases h with h | h
        · rw [h]; exact hi
        · cases ho : l.toArray[j]? with
          | none => rw [ho] at h; cases h
          | some o =>
            rw [ho] at h
            obtain ⟨ed, he, h2⟩ := Array.any_eq_true'.1 h
            simp only [Bool.and_eq_true] at h2
            have h3 := ih ed.on h2.2
            cases hv : listed.getD j false with
            | false => rfl
            | true => rw [hc j o ho hv ed he h2.1] at h3; cases h3
      · rw [List.getElem?_eq_none (by simp; omega)] at h
        cases h
theorem wpAnyT_first {i : Nat} {oi : Oper} {v : Value} (his : i ≠ s) (hi : l.toArray[i]? = some oi) (hsel : ∀ (j : Nat) (o : Oper) cs b, l.toArray[j]? = some o → o.op ≠ .select cs b)
    (hQ : ∀ c a w, Q (.panic c) (a.put oi.dst v) w → Q (.panic c) a w) (S1 : World → Prop) (hS1 : ∀ listed w, Closed md l listed → listed.getD i false = false → S0 w → (listed.getD s false = false → S w) → S1 w) :
    ∀ (fuel : Nat) (listed : Array Bool) (a : Act) (w : World), Closed md l listed →
      (∀ j oj, l.toArray[j]? = some oj → j ≠ i → listed.getD j true = false → (∀ e ∈ oj.after, Region.binds md e = true → e.on ≠ i) → oi.apart l.toArray oj = true) →
      i ∈ Region.ready md l.toArray listed → YieldsIf P l.toArray S1 oi v a → S0 w → (listed.getD s false = false → S w) →
      wpAnyT P md l Q S0 S s fuel (listed.setIfInBounds i true) (a.put oi.dst v) w → wpAnyT P md l Q S0 S s (fuel + 1) listed a w := by
  have un : ∀ {listed : Array Bool}, listed.getD i true = false → listed.getD i false = false := fun {listed} h => by
    rcases Nat.lt_or_ge i listed.size with h' | h'
    · simp [h'] at h ⊢; exact h
    · simp [Array.getElem?_eq_none h'] at h
  intro fuel
  induction fuel with
  | zero =>
    intro listed a w hc _ hr hy hS0 hS H
    refine ⟨fun h => (by rw [h] at hr; cases hr), fun j hj => ?_⟩
    by_cases hji : j = i
    · subst hji
      exact hy.wpOp hi (hS1 listed w hc (un (mem_ready.1 hr).1) hS0 hS) ⟨⟨hS0, fun h => hS (by rwa [getD_set_ne false his] at h)⟩, H⟩
    · have := ready_mono hj hji
      rw [H.1] at this
      cases this
  | succ fuel ih =>
    intro listed a w hc hfree hr hy hS0 hS H
    refine ⟨fun h => (by rw [h] at hr; cases hr), fun j hj => ?_⟩
    by_cases hji : j = i
    · subst hji; exact hy.wpOp hi (hS1 listed w hc (un (mem_ready.1 hr).1) hS0 hS) ⟨⟨hS0, fun h => hS (by rwa [getD_set_ne false his] at h)⟩, H⟩
    · have h1 := H.2 j (ready_mono hj hji)
      obtain ⟨hjun, oj, hoj, hall⟩ := mem_ready.1 hj
      have hnot : ∀ e ∈ oj.after, Region.binds md e = true → e.on ≠ i := fun e he hb heq => by
        have h1 := hall e he hb
        rw [heq, un (mem_ready.1 hr).1] at h1
        cases h1
      have h2 := wpOp_putIf hoj (hfree j oj hoj hji hjun hnot) (fun cs b => hsel i oi cs b hi) (fun cs b => hsel j oj cs b hoj) hQ hy h1
      have hfree' : ∀ k ok, l.toArray[k]? = some ok → k ≠ i → (listed.setIfInBounds j true).getD k true = false →
          (∀ e ∈ ok.after, Region.binds md e = true → e.on ≠ i) → oi.apart l.toArray ok = true := fun k ok hk hki hun hno => by
        refine hfree k ok hk hki ?_ hno
        by_cases hjk : j = k
        · subst hjk; exact hjun
        · rw [getD_set_ne true hjk] at hun; exact hun
      have comm : (listed.setIfInBounds i true).setIfInBounds j true = (listed.setIfInBounds j true).setIfInBounds i true := Array.setIfInBounds_comm _ _ (Ne.symm hji)
      refine wpOp_mono (fun a' w' h3 => ?_) h2
      obtain ⟨g1, ⟨g0, g2⟩, g3⟩ := h3
      rw [comm] at g2 g3
      have hlive : (listed.setIfInBounds j true).getD s false = false → S w' := fun h0 => g2 (by rw [getD_set_ne false his]; exact h0)
      exact ⟨⟨g0, hlive⟩, ih (listed.setIfInBounds j true) a' w' (hc.set hj) hfree' (ready_mono hr (Ne.symm hji)) g1 g0 hlive g3⟩
/-! ### The moves of a walk -/
theorem drop_get {i : Nat} {oi : Oper} {rest : List Oper} (h : l.drop i = oi :: rest) : l.toArray[i]? = some oi := by
  have := congrArg (·[0]?) h
  simpa using this
theorem wpAnyT_take (i : Nat) {oi : Oper} {rest : List Oper} {v : Value} {fuel : Nat} {listed : Array Bool} {a : Act} {w : World} (hd : l.drop i = oi :: rest)
    (hs : (Region.noSelect l.toArray && Region.free md l.toArray listed i && (Region.ready md l.toArray listed).contains i && closedB md l listed && (upB md l i l.length).getD s false && i != s && !listed.getD s false) = true)
    (hQ : ∀ c a w, Q (.panic c) (a.put oi.dst v) w → Q (.panic c) a w) (hy : YieldsIf P l.toArray S oi v a) (hS : S0 w ∧ S w)
    (h : wpAnyT P md l Q S0 S s fuel (listed.setIfInBounds i true) (a.put oi.dst v) w) : wpAnyT P md l Q S0 S s (fuel + 1) listed a w := by
  simp only [Bool.and_eq_true, bne_iff_ne, ne_eq, Bool.not_eq_true'] at hs
  obtain ⟨⟨⟨⟨⟨⟨h1, h2⟩, h3⟩, h4⟩, h5⟩, h6⟩, h7⟩ := hs
  exact wpAnyT_first h6 (drop_get hd) (Region.noSelect_spec h1) hQ S (fun listed' w' hc hu _ hl => hl (upB_spec hc hu _ _ h5)) fuel listed a w (closedB_spec h4) (Region.free_spec (drop_get hd) h2) (by simpa using h3) hy hS.1 (fun _ => hS.2) h
theorem wpAnyT_stay (i : Nat) {oi : Oper} {rest : List Oper} {v : Value} {fuel : Nat} {listed : Array Bool} {a : Act} {w : World} (hd : l.drop i = oi :: rest)
    (hs : (Region.noSelect l.toArray && Region.free md l.toArray listed i && (Region.ready md l.toArray listed).contains i && closedB md l listed && i != s) = true)
    (hQ : ∀ c a w, Q (.panic c) (a.put oi.dst v) w → Q (.panic c) a w) (hy : YieldsIf P l.toArray S0 oi v a) (hS : S0 w ∧ (listed.getD s false = false → S w))
    (h : wpAnyT P md l Q S0 S s fuel (listed.setIfInBounds i true) (a.put oi.dst v) w) : wpAnyT P md l Q S0 S s (fuel + 1) listed a w := by
  simp only [Bool.and_eq_true, bne_iff_ne, ne_eq] at hs
  obtain ⟨⟨⟨⟨h1, h2⟩, h3⟩, h4⟩, h6⟩ := hs
  exact wpAnyT_first h6 (drop_get hd) (Region.noSelect_spec h1) hQ _ (fun _ _ _ _ h0 _ => h0) fuel listed a w (closedB_spec h4) (Region.free_spec (drop_get hd) h2) (by simpa using h3) hy hS.1 hS.2 h
theorem wpAnyT_one (i : Nat) {oi : Oper} {rest : List Oper} {fuel : Nat} {listed : Array Bool} {a : Act} {w : World} (hd : l.drop i = oi :: rest) (hr : Region.ready md l.toArray listed = [i])
    (h : ∀ K : Act → World → Prop, Shut (∀ a w, S0 w ∧ S w → (S0 w ∧ S w → wpAnyT P md l Q S0 S s fuel (listed.setIfInBounds i true) a w) → K a w) → if Region.wanted oi (yielded l.toArray a.tmps) = true then Oper.wp P oi a w K Q else K (a.put oi.dst undef) w) :
    wpAnyT P md l Q S0 S s (fuel + 1) listed a w := by
  refine ⟨fun h0 => (by rw [hr] at h0; cases h0), fun j hj => ?_⟩
  rw [hr] at hj
  obtain rfl : j = i := by simpa using hj
  exact wpOp_step (drop_get hd) (fun K hK => h K (fun a w hS hW => hK a w ⟨⟨hS.1, fun _ => hS.2⟩, hW hS⟩))
theorem wpAnyT_two (i j : Nat) {oi oj : Oper} {rest rest' : List Oper} {fuel : Nat} {listed : Array Bool} {a : Act} {w : World} (hd : l.drop i = oi :: rest) (hd' : l.drop j = oj :: rest') (hr : Region.ready md l.toArray listed = [i, j])
    (h : ∀ K : Act → World → Prop, Shut (∀ a w, S0 w ∧ S w → (S0 w ∧ S w → wpAnyT P md l Q S0 S s fuel (listed.setIfInBounds i true) a w) → K a w) → if Region.wanted oi (yielded l.toArray a.tmps) = true then Oper.wp P oi a w K Q else K (a.put oi.dst undef) w)
    (h' : ∀ K : Act → World → Prop, Shut (∀ a w, S0 w ∧ S w → (S0 w ∧ S w → wpAnyT P md l Q S0 S s fuel (listed.setIfInBounds j true) a w) → K a w) → if Region.wanted oj (yielded l.toArray a.tmps) = true then Oper.wp P oj a w K Q else K (a.put oj.dst undef) w) :
    wpAnyT P md l Q S0 S s (fuel + 1) listed a w := by
  refine ⟨fun h0 => (by rw [hr] at h0; cases h0), fun q hq => ?_⟩
  rw [hr] at hq
  rcases List.mem_cons.1 hq with rfl | hq
  · exact wpOp_step (drop_get hd) (fun K hK => h K (fun a w hS hW => hK a w ⟨⟨hS.1, fun _ => hS.2⟩, hW hS⟩))
  · obtain rfl : q = j := by simpa using hq
    exact wpOp_step (drop_get hd') (fun K hK => h' K (fun a w hS hW => hK a w ⟨⟨hS.1, fun _ => hS.2⟩, hW hS⟩))
theorem wpAnyT_last (i : Nat) {oi : Oper} {rest : List Oper} {fuel : Nat} {listed : Array Bool} {a : Act} {w : World} (hd : l.drop i = oi :: rest) (hr : Region.ready md l.toArray listed = [i]) (hs : (listed.setIfInBounds i true).getD s false = true)
    (h : ∀ K : Act → World → Prop, Shut (∀ a w, S0 w → (S0 w → wpAnyT P md l Q S0 S s fuel (listed.setIfInBounds i true) a w) → K a w) → if Region.wanted oi (yielded l.toArray a.tmps) = true then Oper.wp P oi a w K Q else K (a.put oi.dst undef) w) :
    wpAnyT P md l Q S0 S s (fuel + 1) listed a w := by
  refine ⟨fun h0 => (by rw [hr] at h0; cases h0), fun j hj => ?_⟩
  rw [hr] at hj
  obtain rfl : j = i := by simpa using hj
  exact wpOp_step (drop_get hd) (fun K hK => h K (fun a w hS hW => hK a w ⟨⟨hS, fun h0 => absurd (h0.symm.trans hs) (by decide)⟩, hW hS⟩))
theorem wpAnyT_done {listed : Array Bool} {a : Act} {w : World} (hr : Region.ready md l.toArray listed = []) (h : Q .normal a w) : ∀ fuel, wpAnyT P md l Q S0 S s fuel listed a w
  | 0 => ⟨hr, h⟩
  | _ + 1 => ⟨fun _ => h, by rw [hr]; simp⟩
theorem wp_region_late {id : Nat} {a : Act} {w : World} (S0 S : World → Prop) (s n : Nat) (hm : P.follows .mixedOrders = true) (hn : l.length = n) (hS : S0 w.drew ∧ S w.drew)
    (h : ∀ wd, wd = w.drew → S0 wd ∧ S wd → wpAnyT P .any l Q S0 S s n (Array.replicate n false) a wd) : (Code.region id l.toArray true).wp P Q a w :=
  wp_region_any hm (by subst hn; simpa using wpAny_of_late _ _ _ _ (h _ rfl hS))
end
end Go.Proofs.YtlnneacgllhdhaaGreatDoor
end
