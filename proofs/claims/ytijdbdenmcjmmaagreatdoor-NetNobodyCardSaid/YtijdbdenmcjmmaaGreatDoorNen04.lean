/-
  PLAIN LAWS: a number has one writing; what is put is read again. No program in sight; READING, in plain words: what is read of bytes at a place, and how far; A DRAWN REGION ONE OF WHOSE OPERATIONS (a store) HITS WHAT THE REGION READS, and waits for those reads: the lo. (joined out of OctOneM, PaMath, RegLate by shake.py)
-/
import Derived.Test.YtijdbdenmcjmmaaGreatDoorRows
import Derived.Deep.RegionHeld3
import Derived.Test.YtijdbdenmcjmmaaGreatDoorNen02
section
namespace Go.Proofs.YtijdbdenmcjmmaaGreatDoor.OctMath
theorem rdF_one (cs : List Nat) : ∀ i acc, (∀ x ∈ cs, x < 256) → (rdF cs i acc).2.2 = 0 →
    ∃ V, (rdF cs i acc).1 = acc + V * 128 ^ i ∧ (rdF cs i acc).2.1 = i + (putN V).length ∧ cs.take (putN V).length = putN V ∧ (putN V).length ≤ cs.length ∧ (0 < i → V ≠ 0) := by
  induction cs with
  | nil => intro i acc _ h; simp [rdF] at h
  | cons c cs ih =>
    intro i acc hx
    rw [rdF]
    by_cases hbad : (i = 9 ∧ 1 < c) ∨ (0 < i ∧ c = 0)
    · rw [if_pos hbad]; intro h; simp at h
    · rw [if_neg hbad]
      by_cases hc : c < 128
      · rw [if_pos hc]; intro _
        refine ⟨c, by rw [Nat.mod_eq_of_lt hc], by rw [putN_small hc]; rfl, by rw [putN_small hc]; rfl, by rw [putN_small hc]; simp, fun hi e => hbad (.inr ⟨hi, e⟩)⟩
      · rw [if_neg hc]; intro h
        obtain ⟨V, h1, h2, h3, h4, h5⟩ := ih (i + 1) (acc + c % 128 * 128 ^ i) (fun x hx' => hx x (List.mem_cons_of_mem _ hx')) h
        have hV := h5 (by omega)
        have hc2 := hx c (List.mem_cons_self ..)
        have e : putN (c % 128 + 128 * V) = c :: putN V := by
          rw [putN_big (by omega), show (c % 128 + 128 * V) % 128 + 128 = c from by omega, show (c % 128 + 128 * V) / 128 = V from by omega]
        refine ⟨c % 128 + 128 * V, ?_, ?_, ?_, ?_, fun _ => by omega⟩
        · rw [h1, Nat.pow_succ, Nat.add_mul, Nat.mul_comm (128 ^ i) 128, ← Nat.mul_assoc, Nat.mul_comm V 128, Nat.add_assoc]
        · rw [h2, e]; simp; omega
        · rw [e]; simp [h3]
        · rw [e]; simp; exact h4
theorem rdF_put (n : Nat) : ∀ i acc rest, n * 128 ^ i < 18446744073709551616 → (0 < i → n ≠ 0) → i ≤ 9 →
    rdF (putN n ++ rest) i acc = (acc + n * 128 ^ i, i + (putN n).length, 0) := by
  induction n using Nat.strongRecOn with
  | _ n ih =>
    intro i acc rest hn h0 hi
    by_cases h : n < 128
    · rw [putN_small h, List.singleton_append, rdF]
      have hbad : ¬ ((i = 9 ∧ 1 < n) ∨ (0 < i ∧ n = 0)) := by
        rintro (⟨rfl, h1⟩ | ⟨h1, h2⟩)
        · omega
        · exact h0 h1 h2
      rw [if_neg hbad, if_pos h, Nat.mod_eq_of_lt h]; rfl
    · have hi9 : i < 9 := by
        rcases Nat.lt_or_ge i 9 with h1 | h1
        · exact h1
        · obtain rfl : i = 9 := by omega
          omega
      rw [putN_big h, List.cons_append, rdF]
      have hbad : ¬ ((i = 9 ∧ 1 < n % 128 + 128) ∨ (0 < i ∧ n % 128 + 128 = 0)) := by omega
      rw [if_neg hbad, if_neg (by omega)]
      have e : (n / 128) * 128 ^ (i + 1) = (n / 128 * 128) * 128 ^ i := by rw [Nat.pow_succ, Nat.mul_comm (128 ^ i) 128, ← Nat.mul_assoc]
      have le : (n / 128 * 128) * 128 ^ i ≤ n * 128 ^ i := Nat.mul_le_mul_right _ (by omega)
      rw [ih (n / 128) (by omega) (i + 1) _ rest (by rw [e]; omega) (by omega) (by omega), e]
      have e2 : (n % 128 + 128) % 128 = n % 128 := by omega
      rw [e2]
      have e3 : acc + n % 128 * 128 ^ i + n / 128 * 128 * 128 ^ i = acc + n * 128 ^ i := by
        rw [Nat.add_assoc, ← Nat.add_mul, show n % 128 + n / 128 * 128 = n from by omega]
      rw [e3]
      simp only [List.length_cons]
      rw [show i + 1 + (putN (n / 128)).length = i + ((putN (n / 128)).length + 1) from by omega]
theorem rdN_one (bs : List Nat) (at_ : Int) (h : ∀ x ∈ bs, x < 256) (he : (rdN bs at_).2.2 = 0) :
    ∃ k : Nat, at_ = k ∧ (rdN bs at_).2.1 = ((k + (putN (rdN bs at_).1).length : Nat) : Int) ∧ k + (putN (rdN bs at_).1).length ≤ bs.length ∧
      (bs.drop k).take (putN (rdN bs at_).1).length = putN (rdN bs at_).1 := by
  unfold rdN at he ⊢
  by_cases hb : at_ < 0 ∨ (bs.length : Int) < at_
  · rw [if_pos hb] at he; simp at he
  · rw [if_neg hb] at he ⊢
    obtain ⟨k, rfl⟩ := Int.eq_ofNat_of_zero_le (show 0 ≤ at_ by omega)
    simp only [Int.toNat_natCast] at he ⊢
    by_cases hr : (rdF (bs.drop k) 0 0).2.2 = 0
    · rw [if_pos hr]
      obtain ⟨V, h1, h2, h3, h4, _⟩ := rdF_one (bs.drop k) 0 0 (fun x hx => h x (List.mem_of_mem_drop hx)) hr
      simp only [Nat.pow_zero, Nat.mul_one, Nat.zero_add] at h1 h2
      refine ⟨k, rfl, ?_, ?_, ?_⟩
      · simp only [h1, h2]; omega
      · simp only [h1]; rw [List.length_drop] at h4; omega
      · simp only [h1]; exact h3
    · rw [if_neg hr] at he; exact absurd he hr
theorem rdN_put (pre : List Nat) (n : Nat) (rest : List Nat) (hn : n < 18446744073709551616) :
    rdN (pre ++ (putN n ++ rest)) (pre.length : Nat) = (n, ((pre.length + (putN n).length : Nat) : Int), 0) := by
  unfold rdN
  rw [if_neg (by simp; omega)]
  simp only [Int.toNat_natCast, List.drop_left]
  rw [rdF_put n 0 0 rest (by simpa using hn) (by omega) (by omega)]
  simp
theorem zz_unz (n : Nat) : zz (unz n) = n := by
  unfold zz unz
  split <;> split <;> omega
theorem unz_zz (i : Int) : unz (zz i) = i := by
  unfold zz unz
  split <;> split <;> omega
theorem rdB_one (bs : List Nat) (at_ most : Int) (h : ∀ x ∈ bs, x < 256) (he : (rdB bs at_ most).2.2 = 0) :
    ∃ k : Nat, at_ = k ∧ (rdB bs at_ most).2.1 = ((k + (putN (rdB bs at_ most).1.length ++ (rdB bs at_ most).1).length : Nat) : Int) ∧
      k + (putN (rdB bs at_ most).1.length ++ (rdB bs at_ most).1).length ≤ bs.length ∧
      (bs.drop k).take (putN (rdB bs at_ most).1.length ++ (rdB bs at_ most).1).length = putN (rdB bs at_ most).1.length ++ (rdB bs at_ most).1 := by
  unfold rdB at he ⊢
  simp only at he ⊢
  by_cases h1 : (rdN bs at_).2.2 ≠ 0
  · rw [if_pos h1] at he; exact absurd he h1
  · rw [if_neg h1] at he ⊢
    by_cases h2 : most < 0 ∨ most < ((rdN bs at_).1 : Int) ∨ (bs.length : Int) - (rdN bs at_).2.1 < ((rdN bs at_).1 : Int)
    · rw [if_pos h2] at he; simp at he
    · rw [if_neg h2]
      obtain ⟨k, hk, e1, e2, e3⟩ := rdN_one bs at_ h (by omega)
      obtain ⟨V, eV⟩ : ∃ V, (rdN bs at_).1 = V := ⟨_, rfl⟩
      rw [eV] at e1 e2 e3 h2 ⊢
      rw [e1] at h2 ⊢
      simp only [Int.toNat_natCast]
      have hl : ((bs.drop (k + (putN V).length)).take V).length = V := by rw [List.length_take, List.length_drop]; omega
      refine ⟨k, hk, ?_, ?_, ?_⟩
      · rw [List.length_append, hl]; omega
      · rw [List.length_append, hl]; omega
      · rw [List.length_append, hl, List.take_add, e3, List.drop_drop]
end Go.Proofs.YtijdbdenmcjmmaaGreatDoor.OctMath
end
section
namespace Go.Proofs.YtijdbdenmcjmmaaGreatDoor
open OctMath
set_option linter.unusedVariables false
abbrev Rd (α : Type) := Nat → Option (α × Nat)
def Rd.pure {α : Type} (x : α) : Rd α := fun at_ => some (x, at_)
def Rd.bind {α β : Type} (r : Rd α) (f : α → Rd β) : Rd β := fun at_ => match r at_ with
  | some (x, p) => f x p
  | none => none
theorem Rd.bind_some {α β : Type} {r : Rd α} {f : α → Rd β} {at_ p : Nat} {x : α} (h : r at_ = some (x, p)) : r.bind f at_ = f x p := by unfold Rd.bind; rw [h]
theorem Rd.bind_none {α β : Type} {r : Rd α} {f : α → Rd β} {at_ : Nat} (h : r at_ = none) : r.bind f at_ = none := by unfold Rd.bind; rw [h]
def rNum (bs : List Nat) : Rd Nat := fun at_ => if (rdN bs at_).2.2 = 0 then some ((rdN bs at_).1, (rdN bs at_).2.1.toNat) else none
def rInt (bs : List Nat) : Rd Int := fun at_ => (rNum bs at_).map fun x => (unz x.1, x.2)
def rWord (bs : List Nat) : Rd Nat := fun at_ => match rNum bs at_ with
  | some (n, p) => if n < 4294967296 then some (n, p) else none
  | none => none
def rFlag (bs : List Nat) : Rd Bool := fun at_ => if at_ < bs.length ∧ bs.getD at_ 0 ≤ 1 then some (decide (0 < bs.getD at_ 0), at_ + 1) else none
def rText (bs : List Nat) : Rd (List Nat) := fun at_ => if (rdB bs at_ 1048576).2.2 = 0 then some ((rdB bs at_ 1048576).1, (rdB bs at_ 1048576).2.1.toNat) else none
def rTimes {α : Type} (one : Rd α) : Nat → Rd (List α)
  | 0 => Rd.pure []
  | k + 1 => (rTimes one k).bind fun l => one.bind fun x => Rd.pure (l ++ [x])
def rList {α : Type} (bs : List Nat) (one : Rd α) : Rd (List α) := (rNum bs).bind fun n p => if 1048576 < n ∨ bs.length - p < n then none else rTimes one n p
def rMem (bs : List Nat) : Rd (Int × Int) := (rInt bs).bind fun i => (rInt bs).bind fun w => Rd.pure (i, w)
def rMap (bs : List Nat) : Rd (Nat × List (Int × Int)) := (rNum bs).bind fun e => (rList bs (rMem bs)).bind fun l => Rd.pure (e, l)
def rConf (bs : List Nat) : Rd (List Int × List Int) := (rList bs (rInt bs)).bind fun v => (rList bs (rInt bs)).bind fun l => Rd.pure (v, l)
structure IdT where
  ver : Nat
  idx : Int
  ep : Nat
def rId (bs : List Nat) : Rd IdT := (rNum bs).bind fun v => (rInt bs).bind fun i => (rNum bs).bind fun e => Rd.pure ⟨v, i, e⟩
structure HdT where
  id : IdT
  k : Int
  n : Int
  size : Int
  sum : Nat
def rHd (bs : List Nat) : Rd HdT := (rId bs).bind fun d => (rInt bs).bind fun k => (rInt bs).bind fun n => (rInt bs).bind fun s => (rWord bs).bind fun m => Rd.pure ⟨d, k, n, s, m⟩
structure Wrote {α : Type} (bs : List Nat) (r : Rd α) (put : α → List Nat) : Prop where
  rd : ∀ at_ x p, r at_ = some (x, p) → at_ ≤ bs.length → at_ ≤ p ∧ p ≤ bs.length ∧ (bs.drop at_).take (p - at_) = put x
theorem Wrote.pure {α : Type} (bs : List Nat) (x : α) : Wrote bs (Rd.pure x) (fun _ => []) := ⟨fun at_ y p h hl => by cases h; exact ⟨Nat.le_refl _, hl, by simp⟩⟩
theorem take_join (bs : List Nat) {a p q : Nat} (h1 : a ≤ p) (h2 : p ≤ q) : (bs.drop a).take (q - a) = (bs.drop a).take (p - a) ++ (bs.drop p).take (q - p) := by
  have e : q - a = (p - a) + (q - p) := by omega
  rw [e, List.take_add, List.drop_drop, show a + (p - a) = p by omega]
theorem Wrote.bind {α β : Type} {bs : List Nat} {r : Rd α} {f : α → Rd β} {put : α → List Nat} {put2 : α → β → List Nat} {put3 : β → List Nat} (h : Wrote bs r put) (hf : ∀ x, Wrote bs (f x) (put2 x)) (he : ∀ at_ x p y q, r at_ = some (x, p) → f x p = some (y, q) → put3 y = put x ++ put2 x y) : Wrote bs (r.bind f) put3 := by
  refine ⟨fun at_ y q hy hl => ?_⟩
  unfold Rd.bind at hy
  cases hr : r at_ with
  | none => rw [hr] at hy; cases hy
  | some v =>
    obtain ⟨x, p⟩ := v
    rw [hr] at hy
    obtain ⟨a1, a2, a3⟩ := h.rd at_ x p hr hl
    obtain ⟨b1, b2, b3⟩ := (hf x).rd p y q hy a2
    exact ⟨by omega, b2, by rw [take_join bs a1 b1, a3, b3, he at_ x p y q hr hy]⟩
end Go.Proofs.YtijdbdenmcjmmaaGreatDoor
end
section
namespace Go.Proofs.YtijdbdenmcjmmaaGreatDoor
open Go
set_option linter.unusedVariables false
section
variable {P : Program} {l : List Oper} {md : Region.Mode} {Q : Exit → Act → World → Prop} {S0 S : World → Prop} {s : Nat}
def wpAnyT (P : Program) (md : Region.Mode) (l : List Oper) (Q : Exit → Act → World → Prop) (S0 S : World → Prop) (s : Nat) : Nat → Array Bool → Act → World → Prop
  | 0, listed, a, w => Region.ready md l.toArray listed = [] ∧ Q .normal a w
  | fuel + 1, listed, a, w =>
    (Region.ready md l.toArray listed = [] → Q .normal a w) ∧
    ∀ i ∈ Region.ready md l.toArray listed, wpOp P l.toArray Q i (fun a' w' => (S0 w' ∧ ((listed.setIfInBounds i true).getD s false = false → S w')) ∧ wpAnyT P md l Q S0 S s fuel (listed.setIfInBounds i true) a' w') a w
theorem wpAny_of_late : ∀ (fuel : Nat) (listed : Array Bool) (a : Act) (w : World), wpAnyT P md l Q S0 S s fuel listed a w → wpAny P md l.toArray Q fuel listed a w
  | 0, _, _, _, h => h
  | fuel + 1, _, _, _, h => ⟨h.1, fun i hi => wpOp_mono (fun a' w' h' => wpAny_of_late fuel _ a' w' h'.2) (h.2 i hi)⟩
def upB (md : Region.Mode) (l : List Oper) (i : Nat) : Nat → List Bool
  | 0 => []
  | k + 1 => upB md l i k ++ [k == i || (match l.toArray[k]? with | some o => o.after.any fun e => Region.binds md e && (upB md l i k).getD e.on false | none => false)]
theorem upB_len (i k : Nat) : (upB md l i k).length = k := by
  induction k with
  | zero => rfl
  | succ k ih => simp [upB, ih]
def Closed (md : Region.Mode) (l : List Oper) (listed : Array Bool) : Prop :=
  ∀ (j : Nat) oj, l.toArray[j]? = some oj → listed.getD j false = true → ∀ e ∈ oj.after, Region.binds md e = true → listed.getD e.on false = true
def closedB (md : Region.Mode) (l : List Oper) (listed : Array Bool) : Bool :=
  (List.range l.length).all fun j => match l.toArray[j]? with | some o => !listed.getD j false || o.after.all fun e => !Region.binds md e || listed.getD e.on false | none => true
theorem closedB_spec {listed : Array Bool} (h : closedB md l listed = true) : Closed md l listed := by
  intro j o ho hj e he hb
  have hlt : j < l.length := by simpa using (Array.getElem?_eq_some_iff.1 ho).1
  have h1 := List.all_eq_true.1 h j (List.mem_range.2 hlt)
  simp only [ho, hj, Bool.not_true, Bool.false_or] at h1
  have h2 := Array.all_eq_true_iff_forall_mem.1 h1 e he
  simpa [hb] using h2
theorem Closed.set {listed : Array Bool} (h : Closed md l listed) {i : Nat} (hi : i ∈ Region.ready md l.toArray listed) : Closed md l (listed.setIfInBounds i true) := by
  obtain ⟨_, oi, hoi, hall⟩ := mem_ready.1 hi
  intro j oj hj hl e he hb
  by_cases hij : i = j
  · subst hij
    have : oj = oi := Option.some.inj (hj.symm.trans hoi)
    subst this
    exact getD_set_true (hall e he hb)
  · rw [getD_set_ne false hij] at hl
    exact getD_set_true (h j oj hj hl e he hb)
theorem upB_spec {listed : Array Bool} (hc : Closed md l listed) {i : Nat} (hi : listed.getD i false = false) : ∀ k j, (upB md l i k).getD j false = true → listed.getD j false = false := by
  intro k
  induction k with
  | zero => intro j h; simp [upB] at h
  | succ k ih =>
    intro j h
    rw [upB, List.getD_eq_getElem?_getD] at h
    rcases Nat.lt_or_ge j k with hj | hj
    · rw [List.getElem?_append_left (by rw [upB_len]; exact hj), ← List.getD_eq_getElem?_getD] at h
      exact ih j h
    · rw [List.getElem?_append_right (by rw [upB_len]; exact hj), upB_len] at h
      by_cases e : j = k
      · subst e
        simp only [Nat.sub_self, List.getElem?_cons_zero, Option.getD_some, Bool.or_eq_true, beq_iff_eq] at h
        rcases h with h | h
        · rw [h]; exact hi
        · cases ho : l.toArray[j]? with
          | none => rw [ho] at h; cases h
          | some o =>
            rw [ho] at h
            obtain ⟨ed, he, h2⟩ := Array.any_eq_true'.1 h
            simp only [Bool.and_eq_true] at h2
            have h3 := ih ed.on h2.2
            cases hv : listed.getD j false with
            | false => rfl
            | true => rw [hc j o ho hv ed he h2.1] at h3; cases h3
      · rw [List.getElem?_eq_none (by simp; omega)] at h
        cases h
theorem wpAnyT_first {i : Nat} {oi : Oper} {v : Value} (his : i ≠ s) (hi : l.toArray[i]? = some oi) (hsel : ∀ (j : Nat) (o : Oper) cs b, l.toArray[j]? = some o → o.op ≠ .select cs b)
    (hQ : ∀ c a w, Q (.panic c) (a.put oi.dst v) w → Q (.panic c) a w) (S1 : World → Prop) (hS1 : ∀ listed w, Closed md l listed → listed.getD i false = false → S0 w → (listed.getD s false = false → S w) → S1 w) :
    ∀ (fuel : Nat) (listed : Array Bool) (a : Act) (w : World), Closed md l listed →
      (∀ j oj, l.toArray[j]? = some oj → j ≠ i → listed.getD j true = false → (∀ e ∈ oj.after, Region.binds md e = true → e.on ≠ i) → oi.apart l.toArray oj = true) →
      i ∈ Region.ready md l.toArray listed → YieldsIf P l.toArray S1 oi v a → S0 w → (listed.getD s false = false → S w) →
      wpAnyT P md l Q S0 S s fuel (listed.setIfInBounds i true) (a.put oi.dst v) w → wpAnyT P md l Q S0 S s (fuel + 1) listed a w := by
  have un : ∀ {listed : Array Bool}, listed.getD i true = false → listed.getD i false = false := fun {listed} h => by
    rcases Nat.lt_or_ge i listed.size with h' | h'
    · simp [h'] at h ⊢; exact h
    · simp [Array.getElem?_eq_none h'] at h
  intro fuel
  induction fuel with
  | zero =>
    intro listed a w hc _ hr hy hS0 hS H
    refine ⟨fun h => (by rw [h] at hr; cases hr), fun j hj => ?_⟩
    by_cases hji : j = i
    · subst hji
      exact hy.wpOp hi (hS1 listed w hc (un (mem_ready.1 hr).1) hS0 hS) ⟨⟨hS0, fun h => hS (by rwa [getD_set_ne false his] at h)⟩, H⟩
    · have := ready_mono hj hji
      rw [H.1] at this
      cases this
  | succ fuel ih =>
    intro listed a w hc hfree hr hy hS0 hS H
    refine ⟨fun h => (by rw [h] at hr; cases hr), fun j hj => ?_⟩
    by_cases hji : j = i
    · subst hji; exact hy.wpOp hi (hS1 listed w hc (un (mem_ready.1 hr).1) hS0 hS) ⟨⟨hS0, fun h => hS (by rwa [getD_set_ne false his] at h)⟩, H⟩
    · have h1 := H.2 j (ready_mono hj hji)
      obtain ⟨hjun, oj, hoj, hall⟩ := mem_ready.1 hj
      have hnot : ∀ e ∈ oj.after, Region.binds md e = true → e.on ≠ i := fun e he hb heq => by
        have h1 := hall e he hb
        rw [heq, un (mem_ready.1 hr).1] at h1
        cases h1
      have h2 := wpOp_putIf hoj (hfree j oj hoj hji hjun hnot) (fun cs b => hsel i oi cs b hi) (fun cs b => hsel j oj cs b hoj) hQ hy h1
      have hfree' : ∀ k ok, l.toArray[k]? = some ok → k ≠ i → (listed.setIfInBounds j true).getD k true = false →
          (∀ e ∈ ok.after, Region.binds md e = true → e.on ≠ i) → oi.apart l.toArray ok = true := fun k ok hk hki hun hno => by
        refine hfree k ok hk hki ?_ hno
        by_cases hjk : j = k
        · subst hjk; exact hjun
        · rw [getD_set_ne true hjk] at hun; exact hun
      have comm : (listed.setIfInBounds i true).setIfInBounds j true = (listed.setIfInBounds j true).setIfInBounds i true := Array.setIfInBounds_comm _ _ (Ne.symm hji)
      refine wpOp_mono (fun a' w' h3 => ?_) h2
      obtain ⟨g1, ⟨g0, g2⟩, g3⟩ := h3
      rw [comm] at g2 g3
      have hlive : (listed.setIfInBounds j true).getD s false = false → S w' := fun h0 => g2 (by rw [getD_set_ne false his]; exact h0)
      exact ⟨⟨g0, hlive⟩, ih (listed.setIfInBounds j true) a' w' (hc.set hj) hfree' (ready_mono hr (Ne.symm hji)) g1 g0 hlive g3⟩
/-! ### The moves of a walk -/
theorem drop_get {i : Nat} {oi : Oper} {rest : List Oper} (h : l.drop i = oi :: rest) : l.toArray[i]? = some oi := by
  have := congrArg (·[0]?) h
  simpa using this
theorem wpAnyT_take (i : Nat) {oi : Oper} {rest : List Oper} {v : Value} {fuel : Nat} {listed : Array Bool} {a : Act} {w : World} (hd : l.drop i = oi :: rest)
    (hs : (Region.noSelect l.toArray && Region.free md l.toArray listed i && (Region.ready md l.toArray listed).contains i && closedB md l listed && (upB md l i l.length).getD s false && i != s && !listed.getD s false) = true)
    (hQ : ∀ c a w, Q (.panic c) (a.put oi.dst v) w → Q (.panic c) a w) (hy : YieldsIf P l.toArray S oi v a) (hS : S0 w ∧ S w)
    (h : wpAnyT P md l Q S0 S s fuel (listed.setIfInBounds i true) (a.put oi.dst v) w) : wpAnyT P md l Q S0 S s (fuel + 1) listed a w := by
  simp only [Bool.and_eq_true, bne_iff_ne, ne_eq, Bool.not_eq_true'] at hs
  obtain ⟨⟨⟨⟨⟨⟨h1, h2⟩, h3⟩, h4⟩, h5⟩, h6⟩, h7⟩ := hs
  exact wpAnyT_first h6 (drop_get hd) (Region.noSelect_spec h1) hQ S (fun listed' w' hc hu _ hl => hl (upB_spec hc hu _ _ h5)) fuel listed a w (closedB_spec h4) (Region.free_spec (drop_get hd) h2) (by simpa using h3) hy hS.1 (fun _ => hS.2) h
theorem wpAnyT_stay (i : Nat) {oi : Oper} {rest : List Oper} {v : Value} {fuel : Nat} {listed : Array Bool} {a : Act} {w : World} (hd : l.drop i = oi :: rest)
    (hs : (Region.noSelect l.toArray && Region.free md l.toArray listed i && (Region.ready md l.toArray listed).contains i && closedB md l listed && i != s) = true)
    (hQ : ∀ c a w, Q (.panic c) (a.put oi.dst v) w → Q (.panic c) a w) (hy : YieldsIf P l.toArray S0 oi v a) (hS : S0 w ∧ (listed.getD s false = false → S w))
    (h : wpAnyT P md l Q S0 S s fuel (listed.setIfInBounds i true) (a.put oi.dst v) w) : wpAnyT P md l Q S0 S s (fuel + 1) listed a w := by
  simp only [Bool.and_eq_true, bne_iff_ne, ne_eq] at hs
  obtain ⟨⟨⟨⟨h1, h2⟩, h3⟩, h4⟩, h6⟩ := hs
  exact wpAnyT_first h6 (drop_get hd) (Region.noSelect_spec h1) hQ _ (fun _ _ _ _ h0 _ => h0) fuel listed a w (closedB_spec h4) (Region.free_spec (drop_get hd) h2) (by simpa using h3) hy hS.1 hS.2 h
theorem tT (i : Nat) {oi : Oper} {rest : List Oper} {fuel : Nat} {listed : Array Bool} {a : Act} {w : World} (hd : l.drop i = oi :: rest) (v : Value) (hS : S0 w ∧ (listed.getD s false = false → S w)) (hv : ∀ w, S0 w → (execOp a.eval oi).run P w = .ok (.value v) w)
    (h : wpAnyT P md l Q S0 S s fuel (listed.setIfInBounds i true) (a.put oi.dst v) w) (hg : Region.wanted oi (yielded l.toArray a.tmps) = true := by rfl)
    (hs : (Region.noSelect l.toArray && Region.free md l.toArray listed i && (Region.ready md l.toArray listed).contains i && closedB md l listed && i != s) = true := by kernel_rfl)
    (hQ : ∀ c a w, Q (.panic c) (a.put oi.dst v) w → Q (.panic c) a w := by intro _ _ _ h; exact h) : wpAnyT P md l Q S0 S s (fuel + 1) listed a w :=
  wpAnyT_stay i hd hs hQ (Or.inl ⟨hg, hv⟩) hS h
theorem tS (i : Nat) {oi : Oper} {rest : List Oper} {fuel : Nat} {listed : Array Bool} {a : Act} {w : World} (hd : l.drop i = oi :: rest) (v : Value) (hS : S0 w ∧ S w) (hv : ∀ w, S0 w → (execOp a.eval oi).run P w = .ok (.value v) w)
    (h : wpAnyT P md l Q S0 S s fuel (listed.setIfInBounds i true) (a.put oi.dst v) w) (hg : Region.wanted oi (yielded l.toArray a.tmps) = true := by rfl)
    (hs : (Region.noSelect l.toArray && Region.free md l.toArray listed i && (Region.ready md l.toArray listed).contains i && closedB md l listed && i != s) = true := by kernel_rfl)
    (hQ : ∀ c a w, Q (.panic c) (a.put oi.dst v) w → Q (.panic c) a w := by intro _ _ _ h; exact h) : wpAnyT P md l Q S0 S s (fuel + 1) listed a w :=
  wpAnyT_stay i hd hs hQ (Or.inl ⟨hg, hv⟩) ⟨hS.1, fun _ => hS.2⟩ h
theorem wpAnyT_one (i : Nat) {oi : Oper} {rest : List Oper} {fuel : Nat} {listed : Array Bool} {a : Act} {w : World} (hd : l.drop i = oi :: rest) (hr : Region.ready md l.toArray listed = [i])
    (h : ∀ K : Act → World → Prop, Shut (∀ a w, S0 w ∧ S w → (S0 w ∧ S w → wpAnyT P md l Q S0 S s fuel (listed.setIfInBounds i true) a w) → K a w) → if Region.wanted oi (yielded l.toArray a.tmps) = true then Oper.wp P oi a w K Q else K (a.put oi.dst undef) w) :
    wpAnyT P md l Q S0 S s (fuel + 1) listed a w := by
  refine ⟨fun h0 => (by rw [hr] at h0; cases h0), fun j hj => ?_⟩
  rw [hr] at hj
  obtain rfl : j = i := by simpa using hj
  exact wpOp_step (drop_get hd) (fun K hK => h K (fun a w hS hW => hK a w ⟨⟨hS.1, fun _ => hS.2⟩, hW hS⟩))
theorem wpAnyT_two (i j : Nat) {oi oj : Oper} {rest rest' : List Oper} {fuel : Nat} {listed : Array Bool} {a : Act} {w : World} (hd : l.drop i = oi :: rest) (hd' : l.drop j = oj :: rest') (hr : Region.ready md l.toArray listed = [i, j])
    (h : ∀ K : Act → World → Prop, Shut (∀ a w, S0 w ∧ S w → (S0 w ∧ S w → wpAnyT P md l Q S0 S s fuel (listed.setIfInBounds i true) a w) → K a w) → if Region.wanted oi (yielded l.toArray a.tmps) = true then Oper.wp P oi a w K Q else K (a.put oi.dst undef) w)
    (h' : ∀ K : Act → World → Prop, Shut (∀ a w, S0 w ∧ S w → (S0 w ∧ S w → wpAnyT P md l Q S0 S s fuel (listed.setIfInBounds j true) a w) → K a w) → if Region.wanted oj (yielded l.toArray a.tmps) = true then Oper.wp P oj a w K Q else K (a.put oj.dst undef) w) :
    wpAnyT P md l Q S0 S s (fuel + 1) listed a w := by
  refine ⟨fun h0 => (by rw [hr] at h0; cases h0), fun q hq => ?_⟩
  rw [hr] at hq
  rcases List.mem_cons.1 hq with rfl | hq
  · exact wpOp_step (drop_get hd) (fun K hK => h K (fun a w hS hW => hK a w ⟨⟨hS.1, fun _ => hS.2⟩, hW hS⟩))
  · obtain rfl : q = j := by simpa using hq
    exact wpOp_step (drop_get hd') (fun K hK => h' K (fun a w hS hW => hK a w ⟨⟨hS.1, fun _ => hS.2⟩, hW hS⟩))
theorem wpAnyT_last (i : Nat) {oi : Oper} {rest : List Oper} {fuel : Nat} {listed : Array Bool} {a : Act} {w : World} (hd : l.drop i = oi :: rest) (hr : Region.ready md l.toArray listed = [i]) (hs : (listed.setIfInBounds i true).getD s false = true)
    (h : ∀ K : Act → World → Prop, Shut (∀ a w, S0 w → (S0 w → wpAnyT P md l Q S0 S s fuel (listed.setIfInBounds i true) a w) → K a w) → if Region.wanted oi (yielded l.toArray a.tmps) = true then Oper.wp P oi a w K Q else K (a.put oi.dst undef) w) :
    wpAnyT P md l Q S0 S s (fuel + 1) listed a w := by
  refine ⟨fun h0 => (by rw [hr] at h0; cases h0), fun j hj => ?_⟩
  rw [hr] at hj
  obtain rfl : j = i := by simpa using hj
  exact wpOp_step (drop_get hd) (fun K hK => h K (fun a w hS hW => hK a w ⟨⟨hS, fun h0 => absurd (h0.symm.trans hs) (by decide)⟩, hW hS⟩))
theorem wpAnyT_done {listed : Array Bool} {a : Act} {w : World} (hr : Region.ready md l.toArray listed = []) (h : Q .normal a w) : ∀ fuel, wpAnyT P md l Q S0 S s fuel listed a w
  | 0 => ⟨hr, h⟩
  | _ + 1 => ⟨fun _ => h, by rw [hr]; simp⟩
theorem wp_region_late {id : Nat} {a : Act} {w : World} (S0 S : World → Prop) (s n : Nat) (hm : P.follows .mixedOrders = true) (hn : l.length = n) (hS : S0 w.drew ∧ S w.drew)
    (h : ∀ wd, wd = w.drew → S0 wd ∧ S wd → wpAnyT P .any l Q S0 S s n (Array.replicate n false) a wd) : (Code.region id l.toArray true).wp P Q a w :=
  wp_region_any hm (by subst hn; simpa using wpAny_of_late _ _ _ _ (h _ rfl hS))
end
end Go.Proofs.YtijdbdenmcjmmaaGreatDoor
end
