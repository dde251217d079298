/-
  A DRAWN REGION ONE OF WHOSE OPERATIONS (a store) HITS WHAT THE REGION READS, and waits for those reads: the lo; Frame: what framed bytes are. (printed by gen_wirf6.py). (joined out of RegLate, WirF6 by shake.py)
-/
import Derived.Test.YtlnneacgllhdhaaGreatDoorRows
import Derived.Deep.RegionHeld3
import Derived.Deep.Cut
import Derived.Test.YtlnneacgllhdhaaGreatDoorWcm04
section
namespace Go.Proofs.YtlnneacgllhdhaaGreatDoor
open Go
set_option linter.unusedVariables false
section
variable {P : Program} {l : List Oper} {md : Region.Mode} {Q : Exit → Act → World → Prop} {S0 S : World → Prop} {s : Nat}
/-- Whichever order is picked; S0 is shown behind each operation, S as long as number s has not come up. -/
def wpAnyT (P : Program) (md : Region.Mode) (l : List Oper) (Q : Exit → Act → World → Prop) (S0 S : World → Prop) (s : Nat) : Nat → Array Bool → Act → World → Prop
  | 0, listed, a, w => Region.ready md l.toArray listed = [] ∧ Q .normal a w
  | fuel + 1, listed, a, w =>
    (Region.ready md l.toArray listed = [] → Q .normal a w) ∧
    ∀ i ∈ Region.ready md l.toArray listed, wpOp P l.toArray Q i (fun a' w' => (S0 w' ∧ ((listed.setIfInBounds i true).getD s false = false → S w')) ∧ wpAnyT P md l Q S0 S s fuel (listed.setIfInBounds i true) a' w') a w
theorem wpAny_of_late : ∀ (fuel : Nat) (listed : Array Bool) (a : Act) (w : World), wpAnyT P md l Q S0 S s fuel listed a w → wpAny P md l.toArray Q fuel listed a w
  | 0, _, _, _, h => h
  | fuel + 1, _, _, _, h => ⟨h.1, fun i hi => wpOp_mono (fun a' w' h' => wpAny_of_late fuel _ a' w' h'.2) (h.2 i hi)⟩
/-- Which operations wait for number i, directly or through others (itself too). -/
def upB (md : Region.Mode) (l : List Oper) (i : Nat) : Nat → List Bool
  | 0 => []
  | k + 1 => upB md l i k ++ [k == i || (match l.toArray[k]? with | some o => o.after.any fun e => Region.binds md e && (upB md l i k).getD e.on false | none => false)]
theorem upB_len (i k : Nat) : (upB md l i k).length = k := by
  induction k with
  | zero => rfl
  | succ k ih => simp [upB, ih]
def Closed (md : Region.Mode) (l : List Oper) (listed : Array Bool) : Prop :=
  ∀ (j : Nat) oj, l.toArray[j]? = some oj → listed.getD j false = true → ∀ e ∈ oj.after, Region.binds md e = true → listed.getD e.on false = true
def closedB (md : Region.Mode) (l : List Oper) (listed : Array Bool) : Bool :=
  (List.range l.length).all fun j => match l.toArray[j]? with | some o => !listed.getD j false || o.after.all fun e => !Region.binds md e || listed.getD e.on false | none => true
theorem closedB_spec {listed : Array Bool} (h : closedB md l listed = true) : Closed md l listed := by
  intro j o ho hj e he hb
  have hlt : j < l.length := by simpa using (Array.getElem?_eq_some_iff.1 ho).1
  have h1 := List.all_eq_true.1 h j (List.mem_range.2 hlt)
  simp only [ho, hj, Bool.not_true, Bool.false_or] at h1
  have h2 := Array.all_eq_true_iff_forall_mem.1 h1 e he
  simpa [hb] using h2
theorem Closed.set {listed : Array Bool} (h : Closed md l listed) {i : Nat} (hi : i ∈ Region.ready md l.toArray listed) : Closed md l (listed.setIfInBounds i true) := by
  obtain ⟨_, oi, hoi, hall⟩ := mem_ready.1 hi
  intro j oj hj hl e he hb
  by_cases hij : i = j
  · subst hij
    have : oj = oi := Option.some.inj (hj.symm.trans hoi)
    subst this
    exact getD_set_true (hall e he hb)
  · rw [getD_set_ne false hij] at hl
    exact getD_set_true (h j oj hj hl e he hb)
theorem upB_spec {listed : Array Bool} (hc : Closed md l listed) {i : Nat} (hi : listed.getD i false = false) : ∀ k j, (upB md l i k).getD j false = true → listed.getD j false = false := by
  intro k
  induction k with
  | zero => intro j h; simp [upB] at h
  | succ k ih =>
    intro j h
    rw [upB, List.getD_eq_getElem?_getD] at h
    rcases Nat.lt_or_ge j k with hj | hj
    · rw [List.getElem?_append_left (by rw [upB_len]; exact hj), ← List.getD_eq_getElem?_getD] at h
      exact ih j h
    · rw [List.getElem?_append_right (by rw [upB_len]; exact hj), upB_len] at h
      by_cases e : j = k
      · subst e
        simp only [Nat.sub_self, List.getElem?_cons_zero, Option.getD_some, Bool.or_eq_true, beq_iff_eq] at h
        rcases h with h | h
        · rw [h]; exact hi
        · cases ho : l.toArray[j]? with
          | none => rw [ho] at h; cases h
          | some o =>
            rw [ho] at h
            obtain ⟨ed, he, h2⟩ := Array.any_eq_true'.1 h
            simp only [Bool.and_eq_true] at h2
            have h3 := ih ed.on h2.2
            cases hv : listed.getD j false with
            | false => rfl
            | true => rw [hc j o ho hv ed he h2.1] at h3; cases h3
      · rw [List.getElem?_eq_none (by simp; omega)] at h
        cases h
/-- An operation may be taken first, if it yields its value in every world that meets S1; S gives S1 as long as it has not come up. -/
theorem wpAnyT_first {i : Nat} {oi : Oper} {v : Value} (his : i ≠ s) (hi : l.toArray[i]? = some oi) (hsel : ∀ (j : Nat) (o : Oper) cs b, l.toArray[j]? = some o → o.op ≠ .select cs b)
    (hQ : ∀ c a w, Q (.panic c) (a.put oi.dst v) w → Q (.panic c) a w) (S1 : World → Prop) (hS1 : ∀ listed w, Closed md l listed → listed.getD i false = false → S0 w → (listed.getD s false = false → S w) → S1 w) :
    ∀ (fuel : Nat) (listed : Array Bool) (a : Act) (w : World), Closed md l listed →
      (∀ j oj, l.toArray[j]? = some oj → j ≠ i → listed.getD j true = false → (∀ e ∈ oj.after, Region.binds md e = true → e.on ≠ i) → oi.apart l.toArray oj = true) →
      i ∈ Region.ready md l.toArray listed → YieldsIf P l.toArray S1 oi v a → S0 w → (listed.getD s false = false → S w) →
      wpAnyT P md l Q S0 S s fuel (listed.setIfInBounds i true) (a.put oi.dst v) w → wpAnyT P md l Q S0 S s (fuel + 1) listed a w := by
  have un : ∀ {listed : Array Bool}, listed.getD i true = false → listed.getD i false = false := fun {listed} h => by
    rcases Nat.lt_or_ge i listed.size with h' | h'
    · simp [h'] at h ⊢; exact h
    · simp [Array.getElem?_eq_none h'] at h
  intro fuel
  induction fuel with
  | zero =>
    intro listed a w hc _ hr hy hS0 hS H
    refine ⟨fun h => (by rw [h] at hr; cases hr), fun j hj => ?_⟩
    by_cases hji : j = i
    · subst hji
      exact hy.wpOp hi (hS1 listed w hc (un (mem_ready.1 hr).1) hS0 hS) ⟨⟨hS0, fun h => hS (by rwa [getD_set_ne false his] at h)⟩, H⟩
    · have := ready_mono hj hji
      rw [H.1] at this
      cases this
  | succ fuel ih =>
    intro listed a w hc hfree hr hy hS0 hS H
    refine ⟨fun h => (by rw [h] at hr; cases hr), fun j hj => ?_⟩
    by_cases hji : j = i
    · subst hji; exact hy.wpOp hi (hS1 listed w hc (un (mem_ready.1 hr).1) hS0 hS) ⟨⟨hS0, fun h => hS (by rwa [getD_set_ne false his] at h)⟩, H⟩
    · have h1 := H.2 j (ready_mono hj hji)
      obtain ⟨hjun, oj, hoj, hall⟩ := mem_ready.1 hj
      have hnot : ∀ e ∈ oj.after, Region.binds md e = true → e.on ≠ i := fun e he hb heq => by
        have h1 := hall e he hb
        rw [heq, un (mem_ready.1 hr).1] at h1
        cases h1
      have h2 := wpOp_putIf hoj (hfree j oj hoj hji hjun hnot) (fun cs b => hsel i oi cs b hi) (fun cs b => hsel j oj cs b hoj) hQ hy h1
      have hfree' : ∀ k ok, l.toArray[k]? = some ok → k ≠ i → (listed.setIfInBounds j true).getD k true = false →
          (∀ e ∈ ok.after, Region.binds md e = true → e.on ≠ i) → oi.apart l.toArray ok = true := fun k ok hk hki hun hno => by
        refine hfree k ok hk hki ?_ hno
        by_cases hjk : j = k
        · subst hjk; exact hjun
        · rw [getD_set_ne true hjk] at hun; exact hun
      have comm : (listed.setIfInBounds i true).setIfInBounds j true = (listed.setIfInBounds j true).setIfInBounds i true := Array.setIfInBounds_comm _ _ (Ne.symm hji)
      refine wpOp_mono (fun a' w' h3 => ?_) h2
      obtain ⟨g1, ⟨g0, g2⟩, g3⟩ := h3
      rw [comm] at g2 g3
      have hlive : (listed.setIfInBounds j true).getD s false = false → S w' := fun h0 => g2 (by rw [getD_set_ne false his]; exact h0)
      exact ⟨⟨g0, hlive⟩, ih (listed.setIfInBounds j true) a' w' (hc.set hj) hfree' (ready_mono hr (Ne.symm hji)) g1 g0 hlive g3⟩
/-! ### The moves of a walk -/
theorem drop_get {i : Nat} {oi : Oper} {rest : List Oper} (h : l.drop i = oi :: rest) : l.toArray[i]? = some oi := by
  have := congrArg (·[0]?) h
  simpa using this
/-- Take number i, that reads (number s waits for it). -/
theorem wpAnyT_take (i : Nat) {oi : Oper} {rest : List Oper} {v : Value} {fuel : Nat} {listed : Array Bool} {a : Act} {w : World} (hd : l.drop i = oi :: rest)
    (hs : (Region.noSelect l.toArray && Region.free md l.toArray listed i && (Region.ready md l.toArray listed).contains i && closedB md l listed && (upB md l i l.length).getD s false && i != s && !listed.getD s false) = true)
    (hQ : ∀ c a w, Q (.panic c) (a.put oi.dst v) w → Q (.panic c) a w) (hy : YieldsIf P l.toArray S oi v a) (hS : S0 w ∧ S w)
    (h : wpAnyT P md l Q S0 S s fuel (listed.setIfInBounds i true) (a.put oi.dst v) w) : wpAnyT P md l Q S0 S s (fuel + 1) listed a w := by
  simp only [Bool.and_eq_true, bne_iff_ne, ne_eq, Bool.not_eq_true'] at hs
  obtain ⟨⟨⟨⟨⟨⟨h1, h2⟩, h3⟩, h4⟩, h5⟩, h6⟩, h7⟩ := hs
  exact wpAnyT_first h6 (drop_get hd) (Region.noSelect_spec h1) hQ S (fun listed' w' hc hu _ hl => hl (upB_spec hc hu _ _ h5)) fuel listed a w (closedB_spec h4) (Region.free_spec (drop_get hd) h2) (by simpa using h3) hy hS.1 (fun _ => hS.2) h
/-- Take number i, that reads what stays. -/
theorem wpAnyT_stay (i : Nat) {oi : Oper} {rest : List Oper} {v : Value} {fuel : Nat} {listed : Array Bool} {a : Act} {w : World} (hd : l.drop i = oi :: rest)
    (hs : (Region.noSelect l.toArray && Region.free md l.toArray listed i && (Region.ready md l.toArray listed).contains i && closedB md l listed && i != s) = true)
    (hQ : ∀ c a w, Q (.panic c) (a.put oi.dst v) w → Q (.panic c) a w) (hy : YieldsIf P l.toArray S0 oi v a) (hS : S0 w ∧ (listed.getD s false = false → S w))
    (h : wpAnyT P md l Q S0 S s fuel (listed.setIfInBounds i true) (a.put oi.dst v) w) : wpAnyT P md l Q S0 S s (fuel + 1) listed a w := by
  simp only [Bool.and_eq_true, bne_iff_ne, ne_eq] at hs
  obtain ⟨⟨⟨⟨h1, h2⟩, h3⟩, h4⟩, h6⟩ := hs
  exact wpAnyT_first h6 (drop_get hd) (Region.noSelect_spec h1) hQ _ (fun _ _ _ _ h0 _ => h0) fuel listed a w (closedB_spec h4) (Region.free_spec (drop_get hd) h2) (by simpa using h3) hy hS.1 hS.2 h
/-- One alone may come up: it is carried out, S is shown behind it. -/
theorem wpAnyT_one (i : Nat) {oi : Oper} {rest : List Oper} {fuel : Nat} {listed : Array Bool} {a : Act} {w : World} (hd : l.drop i = oi :: rest) (hr : Region.ready md l.toArray listed = [i])
    (h : ∀ K : Act → World → Prop, Shut (∀ a w, S0 w ∧ S w → (S0 w ∧ S w → wpAnyT P md l Q S0 S s fuel (listed.setIfInBounds i true) a w) → K a w) → if Region.wanted oi (yielded l.toArray a.tmps) = true then Oper.wp P oi a w K Q else K (a.put oi.dst undef) w) :
    wpAnyT P md l Q S0 S s (fuel + 1) listed a w := by
  refine ⟨fun h0 => (by rw [hr] at h0; cases h0), fun j hj => ?_⟩
  rw [hr] at hj
  obtain rfl : j = i := by simpa using hj
  exact wpOp_step (drop_get hd) (fun K hK => h K (fun a w hS hW => hK a w ⟨⟨hS.1, fun _ => hS.2⟩, hW hS⟩))
/-- Two may come up. -/
theorem wpAnyT_two (i j : Nat) {oi oj : Oper} {rest rest' : List Oper} {fuel : Nat} {listed : Array Bool} {a : Act} {w : World} (hd : l.drop i = oi :: rest) (hd' : l.drop j = oj :: rest') (hr : Region.ready md l.toArray listed = [i, j])
    (h : ∀ K : Act → World → Prop, Shut (∀ a w, S0 w ∧ S w → (S0 w ∧ S w → wpAnyT P md l Q S0 S s fuel (listed.setIfInBounds i true) a w) → K a w) → if Region.wanted oi (yielded l.toArray a.tmps) = true then Oper.wp P oi a w K Q else K (a.put oi.dst undef) w)
    (h' : ∀ K : Act → World → Prop, Shut (∀ a w, S0 w ∧ S w → (S0 w ∧ S w → wpAnyT P md l Q S0 S s fuel (listed.setIfInBounds j true) a w) → K a w) → if Region.wanted oj (yielded l.toArray a.tmps) = true then Oper.wp P oj a w K Q else K (a.put oj.dst undef) w) :
    wpAnyT P md l Q S0 S s (fuel + 1) listed a w := by
  refine ⟨fun h0 => (by rw [hr] at h0; cases h0), fun q hq => ?_⟩
  rw [hr] at hq
  rcases List.mem_cons.1 hq with rfl | hq
  · exact wpOp_step (drop_get hd) (fun K hK => h K (fun a w hS hW => hK a w ⟨⟨hS.1, fun _ => hS.2⟩, hW hS⟩))
  · obtain rfl : q = j := by simpa using hq
    exact wpOp_step (drop_get hd') (fun K hK => h' K (fun a w hS hW => hK a w ⟨⟨hS.1, fun _ => hS.2⟩, hW hS⟩))
/-- The same, the late operation itself, or one behind it. -/
theorem wpAnyT_last (i : Nat) {oi : Oper} {rest : List Oper} {fuel : Nat} {listed : Array Bool} {a : Act} {w : World} (hd : l.drop i = oi :: rest) (hr : Region.ready md l.toArray listed = [i]) (hs : (listed.setIfInBounds i true).getD s false = true)
    (h : ∀ K : Act → World → Prop, Shut (∀ a w, S0 w → (S0 w → wpAnyT P md l Q S0 S s fuel (listed.setIfInBounds i true) a w) → K a w) → if Region.wanted oi (yielded l.toArray a.tmps) = true then Oper.wp P oi a w K Q else K (a.put oi.dst undef) w) :
    wpAnyT P md l Q S0 S s (fuel + 1) listed a w := by
  refine ⟨fun h0 => (by rw [hr] at h0; cases h0), fun j hj => ?_⟩
  rw [hr] at hj
  obtain rfl : j = i := by simpa using hj
  exact wpOp_step (drop_get hd) (fun K hK => h K (fun a w hS hW => hK a w ⟨⟨hS, fun h0 => absurd (h0.symm.trans hs) (by decide)⟩, hW hS⟩))
theorem wpAnyT_done {listed : Array Bool} {a : Act} {w : World} (hr : Region.ready md l.toArray listed = []) (h : Q .normal a w) : ∀ fuel, wpAnyT P md l Q S0 S s fuel listed a w
  | 0 => ⟨hr, h⟩
  | _ + 1 => ⟨fun _ => h, by rw [hr]; simp⟩
theorem wp_region_late {id : Nat} {a : Act} {w : World} (S0 S : World → Prop) (s n : Nat) (hm : P.follows .mixedOrders = true) (hn : l.length = n) (hS : S0 w.drew ∧ S w.drew)
    (h : ∀ wd, wd = w.drew → S0 wd ∧ S wd → wpAnyT P .any l Q S0 S s n (Array.replicate n false) a wd) : (Code.region id l.toArray true).wp P Q a w :=
  wp_region_any hm (by subst hn; simpa using wpAny_of_late _ _ _ _ (h _ rfl hS))
end
end Go.Proofs.YtlnneacgllhdhaaGreatDoor
end
section
namespace Go.Proofs.YtlnneacgllhdhaaGreatDoor
open Go.RowKit OctMath
set_option linter.unusedVariables false
set_option linter.unusedSimpArgs false
theorem mk_bytes (n : Nat) (hn : n ≤ 140737488355328) (W : World) : (Instr.makeSlice 33 (.int .i64 0) (.int .i64 (n : Int))).run Tryz.prog W = .ok (.slice (some ⟨W.heap.size, 0, none⟩) 0 n) (W.alloc (.cells (madeCells #[.int .u8 0] n) 5)) := make0 n (by omega) W
theorem word_new (z : Nat) (w : World) (hz : z < 4294967296) : Calls Tryz.prog 36 #[.int .u32 (z : Int)] w (fun e w' => e = .returned (.slice (some ⟨w.heap.size, 0, none⟩) 4 4) ∧ Hid (Reads w' w'.heap.size 1 (some ⟨w.heap.size, 0, none⟩) 4 ((wordL z).map bv)) ∧ Below w.heap.size w w') := by
  go_enter Tryz.func36, Tryz.ntmps36
  go_wp2
  go_ret
  obtain ⟨A, n, cap, e, hr, hb, -, -⟩ := word_row w 5 z #[.int .u8 ((z : Int) % 256), .int .u8 ((z : Int) / 256 % 256), .int .u8 ((z : Int) / 65536 % 256), .int .u8 ((z : Int) / 16777216)] (by simp [wordL, bv])
  injection e with e
  injection e with e1 e2 e3
  subst e1 e2 e3
  exact ⟨rfl, hr, hb⟩
def RetFrm (xs : List Nat) (l : Nat) (w : World) (e : Ending) (w' : World) : Prop := Below w.heap.size w w' ∧ if 4194304 < l then e = .returned (.tuple #[.slice none 0 0, .int .i64 60]) else ∃ v, e = .returned (.tuple #[v, .int .i64 0]) ∧ w'.ownsRow w.heap.size 5 1 v (l + 12) ((fr xs).map bv)
set_option maxRecDepth 100000 in
set_option maxHeartbeats 8000000 in
theorem Frame_any (A : Option Addr) (l cap : Nat) (xs : List Nat) (w : World) (hr : Hid (RdB w A l cap xs)) : Calls Tryz.prog 14 #[.slice A l cap] w (RetFrm xs l w) := by
  have hl := hr.out.len
  by_cases hb : 4194304 < l
  · have d1 : decide ((l : Int) > 4194304) = true := decide_eq_true (by omega)
    have d2 : decide (4194304 < l) = true := decide_eq_true hb
    have HB := Lib.hid hb
    clear hb hl
    go_enter Tryz.func14, Tryz.ntmps14
    go_wp2
    go_ret2
    exact ⟨Below.refl _ _, by rw [if_pos HB.out]; rfl⟩
  · have d1 : decide ((l : Int) > 4194304) = false := decide_eq_false (by omega)
    have d2 : decide (4194304 < l) = false := decide_eq_false hb
    have HNB := Lib.hid hb
    have hle : l ≤ 4194304 := by omega
    have HF := Lib.hid (show fr xs = ([] ++ seal_ (wordL l)) ++ seal_ xs from by unfold fr; rw [hl]; rfl)
    have HWB := Lib.hid (wordL_byt' (n := l) hle)
    have hmk : ∀ W : World, (Instr.makeSlice 33 (.int .i64 0) (.int .i64 ((l : Int) + 12))).run Tryz.prog W = .ok (.slice (some ⟨W.heap.size, 0, none⟩) 0 (l + 12)) (W.alloc (.cells (madeCells #[.int .u8 0] (l + 12)) 5)) := fun W => by
      have := mk_bytes (l + 12) (by omega) W
      rw [show ((l + 12 : Nat) : Int) = (l : Int) + 12 from by omega] at this
      exact this
    clear hb hl
    go_enter Tryz.func14, Tryz.ntmps14
    go_upto_region 3 with fail
    refine wp_region_late (S0 := fun _ => True) (S := fun _ => True) 12 13 (by kernel_rfl) rfl ⟨trivial, trivial⟩ (fun wd hwd hH => ?_)
    have ND := Lib.hid (show Below w.heap.size w wd from by rw [hwd]; exact (Below.refl _ _).drew)
    clear hwd
    have hw1 : IntKind.i64.wrap ((l : Int) + 12) = (l : Int) + 12 := by simp only [IntKind.wrap, IntKind.signed, IntKind.bits]; simp; omega
    have hw2 : IntKind.u32.wrap (l : Int) = (l : Int) := by simp only [IntKind.wrap, IntKind.signed, IntKind.bits]; simp; omega
    refine wpAnyT_stay 0 (v := ?_) rfl (by kernel_rfl) (fun _ _ _ h => h) (Or.inl ⟨by rfl, ?_⟩) ⟨hH.1, fun _ => hH.2⟩ ?_
    rotate_left
    · (intro wx hx; clear hx; go_simp <;> with_reducible rfl)
    try simp only [Act.put, List.setIfInBounds_toArray, List.set_cons_zero, List.set_cons_succ]
    refine wpAnyT_stay 1 (v := ?_) rfl (by kernel_rfl) (fun _ _ _ h => h) (Or.inl ⟨by rfl, ?_⟩) ⟨hH.1, fun _ => hH.2⟩ ?_
    rotate_left
    · (intro wx hx; clear hx; go_simp <;> with_reducible rfl)
    try simp only [Act.put, List.setIfInBounds_toArray, List.set_cons_zero, List.set_cons_succ]
    refine wpAnyT_stay 2 (v := ?_) rfl (by kernel_rfl) (fun _ _ _ h => h) (Or.inl ⟨by rfl, ?_⟩) ⟨hH.1, fun _ => hH.2⟩ ?_
    rotate_left
    · (intro wx hx; clear hx; go_simp <;> with_reducible rfl)
    try simp only [Act.put, List.setIfInBounds_toArray, List.set_cons_zero, List.set_cons_succ]
    refine wpAnyT_stay 4 (v := ?_) rfl (by kernel_rfl) (fun _ _ _ h => h) (Or.inl ⟨by rfl, ?_⟩) ⟨hH.1, fun _ => hH.2⟩ ?_
    rotate_left
    · (intro wx hx; clear hx; go_simp <;> with_reducible rfl)
    try simp only [Act.put, List.setIfInBounds_toArray, List.set_cons_zero, List.set_cons_succ]
    refine wpAnyT_stay 5 (v := ?_) rfl (by kernel_rfl) (fun _ _ _ h => h) (Or.inl ⟨by rfl, ?_⟩) ⟨hH.1, fun _ => hH.2⟩ ?_
    rotate_left
    · (intro wx hx; clear hx; go_simp <;> with_reducible rfl)
    try simp only [Act.put, List.setIfInBounds_toArray, List.set_cons_zero, List.set_cons_succ]
    refine wpAnyT_stay 6 (v := ?_) rfl (by kernel_rfl) (fun _ _ _ h => h) (Or.inl ⟨by rfl, ?_⟩) ⟨hH.1, fun _ => hH.2⟩ ?_
    rotate_left
    · (intro wx hx; clear hx; go_simp <;> with_reducible rfl)
    try simp only [Act.put, List.setIfInBounds_toArray, List.set_cons_zero, List.set_cons_succ]
    refine wpAnyT_stay 9 (v := ?_) rfl (by kernel_rfl) (fun _ _ _ h => h) (Or.inl ⟨by rfl, ?_⟩) ⟨hH.1, fun _ => hH.2⟩ ?_
    rotate_left
    · (intro wx hx; clear hx; go_simp <;> with_reducible rfl)
    try simp only [Act.put, List.setIfInBounds_toArray, List.set_cons_zero, List.set_cons_succ]
    refine wpAnyT_two 3 7 rfl rfl (by kernel_rfl) (fun K hQ => ?_) (fun K hQ => ?_)
    · as_aux_lemma =>
      have NX := ND
      rw [if_pos (by rfl)]
      go_simp
      obtain ⟨w1, ew⟩ : ∃ w1, wd.alloc (.cells (madeCells #[.int .u8 0] (l + 12)) 5) = w1 := ⟨_, rfl⟩
      have hb : Below wd.heap.size wd (wd.alloc (.cells (madeCells #[.int .u8 0] (l + 12)) 5)) := (Below.refl _ _).alloc (Nat.le_refl _) _
      have ho : (wd.alloc (.cells (madeCells #[.int .u8 0] (l + 12)) 5)).ownsRow w.heap.size 5 1 (.slice (some ⟨wd.heap.size, 0, none⟩) 0 (l + 12)) 0 [] := World.ownsRow_made wd _ _ (by have := NX.out.size; omega) (by unfold maxLen; omega) (by rw [size_madeCells, Nat.mul_one])
      rw [ew] at hb ho ⊢
      have HO := Lib.hid ho
      have NX1 := Lib.hid (NX.out.trans (hb.mono NX.out.size))
      have HG := Lib.hid (show wd.heap.size < w1.heap.size from by rw [← ew]; simp)
      refine hQ.out _ _ ⟨trivial, trivial⟩ (fun hH1 => ?_)
      clear hQ K hb ho ew
      try simp only [Act.put, List.setIfInBounds_toArray, List.set_cons_zero, List.set_cons_succ]
      refine wpAnyT_one 7 rfl (by kernel_rfl) (fun K hQ => ?_)
      rw [if_pos (by rfl)]
      go_simp
      go_at_call 36
      refine (word_new l w1 (by omega)).mono ?_
      rintro ev w2 ⟨rfl, r3, hb⟩
      have NX2 := Lib.hid (NX1.out.trans (hb.mono NX1.out.size))
      have HO := Lib.hid (own_below HO.out hb)
      have HNE := Lib.hid (show 0 < 4 → ∀ ad, (some ⟨w1.heap.size, 0, none⟩ : Option Addr) = some ad → some ad.block ≠ (Value.slice (some ⟨wd.heap.size, 0, none⟩) 0 (l + 12)).ownBlock from fun h0 ad e e2 => by injection e with e; rw [← e] at e2; simp only [Value.ownBlock, Option.map_some, Option.some.injEq] at e2; have := HG.out; omega)
      have R3 := r3
      refine hQ.out _ _ ⟨trivial, trivial⟩ (fun hH2 => ?_)
      clear hQ K hb
      try simp only [Act.put, List.setIfInBounds_toArray, List.set_cons_zero, List.set_cons_succ]
      refine wpAnyT_one 8 rfl (by kernel_rfl) (fun K hQ => ?_)
      rw [if_pos (by rfl)]
      go_simp
      go_at_call 35
      refine (sealed_any w.heap.size w (some ⟨wd.heap.size, 0, none⟩) 0 (l + 12) [] (some ⟨w1.heap.size, 0, none⟩) 4 4 (wordL l) w2 HO R3 HNE NX2 (Lib.hid NX2.out.size) HWB.out (by omega)).mono ?_
      rintro ev w3 ⟨v3, rfl, ho3, hb3, hz3⟩
      obtain ⟨A5, c5, rfl, -, -⟩ := own_slice ho3
      have HO3 := Lib.hid ho3
      have HB3 := Lib.hid hb3
      have HZ3 := Lib.hid hz3
      refine hQ.out _ _ ⟨trivial, trivial⟩ (fun hH3 => ?_)
      clear hQ K hb3 hz3 ho3
      try simp only [Act.put, List.setIfInBounds_toArray, List.set_cons_zero, List.set_cons_succ]
      refine wpAnyT_one 10 rfl (by kernel_rfl) (fun K hQ => ?_)
      rw [if_pos (by rfl)]
      go_simp
      go_at_call 35
      refine (sealed_any w.heap.size w A5 _ c5 _ A l cap xs w3 HO3 (Lib.hid ((hr.out.1.below HB3.out).more HZ3.out)) (Lib.hid (fun h0 ad e e2 => by obtain ⟨ad1, e1, h1, -⟩ := hr.out.1.2 h0; rw [e] at e1; injection e1 with e1; subst e1; have := (HO3.out.lt _ e2.symm).1; omega)) HB3 HZ3 hr.out.2.1 (by omega)).mono ?_
      rintro ev w4 ⟨v4, rfl, ho4, hb4, hz4⟩
      have HO4 := Lib.hid ho4
      have HB4 := Lib.hid hb4
      refine hQ.out _ _ ⟨trivial, trivial⟩ (fun hH4 => ?_)
      clear hQ K hb4 hz4 ho4
      try simp only [Act.put, List.setIfInBounds_toArray, List.set_cons_zero, List.set_cons_succ]
      refine wpAnyT_one 11 rfl (by kernel_rfl) (fun K hQ => ?_)
      rw [if_pos (by rfl)]
      go_simp
      refine hQ.out _ _ ⟨trivial, trivial⟩ (fun hH5 => ?_)
      clear hQ K
      try simp only [Act.put, List.setIfInBounds_toArray, List.set_cons_zero, List.set_cons_succ]
      refine wpAnyT_last 12 rfl (by kernel_rfl) (by decide) (fun K hQ => ?_)
      rw [if_pos (by rfl)]
      go_simp
      refine hQ.out _ _ trivial (fun hH6 => ?_)
      clear hQ K
      try simp only [Act.put, List.setIfInBounds_toArray, List.set_cons_zero, List.set_cons_succ]
      refine wpAnyT_done (by kernel_rfl) ?_ _
      go_wp2
      go_ret2
      refine ⟨HB4.out, ?_⟩
      rw [if_neg HNB.out]
      refine ⟨v4, rfl, ?_⟩
      rw [HF.out]
      have h4 := HO4.out
      rw [show 0 + 4 + 4 + l + 4 = l + 12 from by omega] at h4
      exact h4
    · as_aux_lemma =>
      have NX := ND
      rw [if_pos (by rfl)]
      go_simp
      go_at_call 36
      refine (word_new l wd (by omega)).mono ?_
      rintro ev w1 ⟨rfl, r3, hb⟩
      have NX := Lib.hid (NX.out.trans (hb.mono NX.out.size))
      have R3 := r3
      refine hQ.out _ _ ⟨trivial, trivial⟩ (fun hH1 => ?_)
      clear hQ K hb
      try simp only [Act.put, List.setIfInBounds_toArray, List.set_cons_zero, List.set_cons_succ]
      refine wpAnyT_one 3 rfl (by kernel_rfl) (fun K hQ => ?_)
      rw [if_pos (by rfl)]
      go_simp
      obtain ⟨w2, ew⟩ : ∃ w2, w1.alloc (.cells (madeCells #[.int .u8 0] (l + 12)) 5) = w2 := ⟨_, rfl⟩
      have hb : Below w1.heap.size w1 (w1.alloc (.cells (madeCells #[.int .u8 0] (l + 12)) 5)) := (Below.refl _ _).alloc (Nat.le_refl _) _
      have ho : (w1.alloc (.cells (madeCells #[.int .u8 0] (l + 12)) 5)).ownsRow w.heap.size 5 1 (.slice (some ⟨w1.heap.size, 0, none⟩) 0 (l + 12)) 0 [] := World.ownsRow_made w1 _ _ (by have := NX.out.size; omega) (by unfold maxLen; omega) (by rw [size_madeCells, Nat.mul_one])
      rw [ew] at hb ho ⊢
      have HO := Lib.hid ho
      have NX2 := Lib.hid (NX.out.trans (hb.mono NX.out.size))
      have HNE := Lib.hid (show 0 < 4 → ∀ ad, (some ⟨wd.heap.size, 0, none⟩ : Option Addr) = some ad → some ad.block ≠ (Value.slice (some ⟨w1.heap.size, 0, none⟩) 0 (l + 12)).ownBlock from fun h0 ad e e2 => by obtain ⟨ad1, e1, h1, -⟩ := R3.out.2 h0; rw [e] at e1; injection e1 with e1; subst e1; simp only [Value.ownBlock, Option.map_some, Option.some.injEq] at e2; omega)
      have r3 := Lib.hid (R3.out.later hb)
      have R3 := r3
      refine hQ.out _ _ ⟨trivial, trivial⟩ (fun hH2 => ?_)
      clear hQ K hb
      try simp only [Act.put, List.setIfInBounds_toArray, List.set_cons_zero, List.set_cons_succ]
      refine wpAnyT_one 8 rfl (by kernel_rfl) (fun K hQ => ?_)
      rw [if_pos (by rfl)]
      go_simp
      go_at_call 35
      refine (sealed_any w.heap.size w (some ⟨w1.heap.size, 0, none⟩) 0 (l + 12) [] (some ⟨wd.heap.size, 0, none⟩) 4 4 (wordL l) w2 HO R3 HNE NX2 (Lib.hid NX2.out.size) HWB.out (by omega)).mono ?_
      rintro ev w3 ⟨v3, rfl, ho3, hb3, hz3⟩
      obtain ⟨A5, c5, rfl, -, -⟩ := own_slice ho3
      have HO3 := Lib.hid ho3
      have HB3 := Lib.hid hb3
      have HZ3 := Lib.hid hz3
      refine hQ.out _ _ ⟨trivial, trivial⟩ (fun hH3 => ?_)
      clear hQ K hb3 hz3 ho3
      try simp only [Act.put, List.setIfInBounds_toArray, List.set_cons_zero, List.set_cons_succ]
      refine wpAnyT_one 10 rfl (by kernel_rfl) (fun K hQ => ?_)
      rw [if_pos (by rfl)]
      go_simp
      go_at_call 35
      refine (sealed_any w.heap.size w A5 _ c5 _ A l cap xs w3 HO3 (Lib.hid ((hr.out.1.below HB3.out).more HZ3.out)) (Lib.hid (fun h0 ad e e2 => by obtain ⟨ad1, e1, h1, -⟩ := hr.out.1.2 h0; rw [e] at e1; injection e1 with e1; subst e1; have := (HO3.out.lt _ e2.symm).1; omega)) HB3 HZ3 hr.out.2.1 (by omega)).mono ?_
      rintro ev w4 ⟨v4, rfl, ho4, hb4, hz4⟩
      have HO4 := Lib.hid ho4
      have HB4 := Lib.hid hb4
      refine hQ.out _ _ ⟨trivial, trivial⟩ (fun hH4 => ?_)
      clear hQ K hb4 hz4 ho4
      try simp only [Act.put, List.setIfInBounds_toArray, List.set_cons_zero, List.set_cons_succ]
      refine wpAnyT_one 11 rfl (by kernel_rfl) (fun K hQ => ?_)
      rw [if_pos (by rfl)]
      go_simp
      refine hQ.out _ _ ⟨trivial, trivial⟩ (fun hH5 => ?_)
      clear hQ K
      try simp only [Act.put, List.setIfInBounds_toArray, List.set_cons_zero, List.set_cons_succ]
      refine wpAnyT_last 12 rfl (by kernel_rfl) (by decide) (fun K hQ => ?_)
      rw [if_pos (by rfl)]
      go_simp
      refine hQ.out _ _ trivial (fun hH6 => ?_)
      clear hQ K
      try simp only [Act.put, List.setIfInBounds_toArray, List.set_cons_zero, List.set_cons_succ]
      refine wpAnyT_done (by kernel_rfl) ?_ _
      go_wp2
      go_ret2
      refine ⟨HB4.out, ?_⟩
      rw [if_neg HNB.out]
      refine ⟨v4, rfl, ?_⟩
      rw [HF.out]
      have h4 := HO4.out
      rw [show 0 + 4 + 4 + l + 4 = l + 12 from by omega] at h4
      exact h4
end Go.Proofs.YtlnneacgllhdhaaGreatDoor
end
