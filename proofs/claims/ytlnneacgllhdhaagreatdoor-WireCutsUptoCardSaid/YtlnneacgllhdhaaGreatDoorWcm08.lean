/-
  PLAIN LAWS: a number has one writing; what is put is read again. No program in sight; READING, in plain words: what is read of bytes at a place, and how far; THE REFERENCE'S WRITER (layer 5's P): what each of its calls writes, and what it leaves alone; THE REFERENCE'S WRITER: lengths, short numbers, names, headers, rows of nothing, configurations, texts; THE REFERENCE'S WRITER: what it begins with, and what was written. (lines of PenW3 that serve every seat); THE PROGRAM'S READER: a page; THE PROGRAM'S READER: numbers with a sign, words, flags, texts. (printed by gen_par2.py). (joined out of OctOneM, PaMath, PenW1, PenW2, PenB, PaR1, PaR2 by shake.py)
-/
import Derived.Lib.ConvBytes
import Derived.Deep.RegionHeld3
import Derived.Test.YtlnneacgllhdhaaGreatDoorWcm02
import Derived.Test.YtlnneacgllhdhaaGreatDoorWcm03
import Derived.Test.YtlnneacgllhdhaaGreatDoorWcm01
import Derived.Test.YtlnneacgllhdhaaGreatDoorWcm05
section
namespace Go.Proofs.YtlnneacgllhdhaaGreatDoor.OctMath
theorem rdF_one (cs : List Nat) : ∀ i acc, (∀ x ∈ cs, x < 256) → (rdF cs i acc).2.2 = 0 →
    ∃ V, (rdF cs i acc).1 = acc + V * 128 ^ i ∧ (rdF cs i acc).2.1 = i + (putN V).length ∧ cs.take (putN V).length = putN V ∧ (putN V).length ≤ cs.length ∧ (0 < i → V ≠ 0) := by
  induction cs with
  | nil => intro i acc _ h; simp [rdF] at h
  | cons c cs ih =>
    intro i acc hx
    rw [rdF]
    by_cases hbad : (i = 9 ∧ 1 < c) ∨ (0 < i ∧ c = 0)
    · rw [if_pos hbad]; intro h; simp at h
    · rw [if_neg hbad]
      by_cases hc : c < 128
      · rw [if_pos hc]; intro _
        refine ⟨c, by rw [Nat.mod_eq_of_lt hc], by rw [putN_small hc]; rfl, by rw [putN_small hc]; rfl, by rw [putN_small hc]; simp, fun hi e => hbad (.inr ⟨hi, e⟩)⟩
      · rw [if_neg hc]; intro h
        obtain ⟨V, h1, h2, h3, h4, h5⟩ := ih (i + 1) (acc + c % 128 * 128 ^ i) (fun x hx' => hx x (List.mem_cons_of_mem _ hx')) h
        have hV := h5 (by omega)
        have hc2 := hx c (List.mem_cons_self ..)
        have e : putN (c % 128 + 128 * V) = c :: putN V := by
          rw [putN_big (by omega), show (c % 128 + 128 * V) % 128 + 128 = c from by omega, show (c % 128 + 128 * V) / 128 = V from by omega]
        refine ⟨c % 128 + 128 * V, ?_, ?_, ?_, ?_, fun _ => by omega⟩
        · rw [h1, Nat.pow_succ, Nat.add_mul, Nat.mul_comm (128 ^ i) 128, ← Nat.mul_assoc, Nat.mul_comm V 128, Nat.add_assoc]
        · rw [h2, e]; simp; omega
        · rw [e]; simp [h3]
        · rw [e]; simp; exact h4
theorem rdF_put (n : Nat) : ∀ i acc rest, n * 128 ^ i < 18446744073709551616 → (0 < i → n ≠ 0) → i ≤ 9 →
    rdF (putN n ++ rest) i acc = (acc + n * 128 ^ i, i + (putN n).length, 0) := by
  induction n using Nat.strongRecOn with
  | _ n ih =>
    intro i acc rest hn h0 hi
    by_cases h : n < 128
    · rw [putN_small h, List.singleton_append, rdF]
      have hbad : ¬ ((i = 9 ∧ 1 < n) ∨ (0 < i ∧ n = 0)) := by
        rintro (⟨rfl, h1⟩ | ⟨h1, h2⟩)
        · omega
        · exact h0 h1 h2
      rw [if_neg hbad, if_pos h, Nat.mod_eq_of_lt h]; rfl
    · have hi9 : i < 9 := by
        rcases Nat.lt_or_ge i 9 with h1 | h1
        · exact h1
        · obtain rfl : i = 9 := by omega
          omega
      rw [putN_big h, List.cons_append, rdF]
      have hbad : ¬ ((i = 9 ∧ 1 < n % 128 + 128) ∨ (0 < i ∧ n % 128 + 128 = 0)) := by omega
      rw [if_neg hbad, if_neg (by omega)]
      have e : (n / 128) * 128 ^ (i + 1) = (n / 128 * 128) * 128 ^ i := by rw [Nat.pow_succ, Nat.mul_comm (128 ^ i) 128, ← Nat.mul_assoc]
      have le : (n / 128 * 128) * 128 ^ i ≤ n * 128 ^ i := Nat.mul_le_mul_right _ (by omega)
      rw [ih (n / 128) (by omega) (i + 1) _ rest (by rw [e]; omega) (by omega) (by omega), e]
      have e2 : (n % 128 + 128) % 128 = n % 128 := by omega
      rw [e2]
      have e3 : acc + n % 128 * 128 ^ i + n / 128 * 128 * 128 ^ i = acc + n * 128 ^ i := by
        rw [Nat.add_assoc, ← Nat.add_mul, show n % 128 + n / 128 * 128 = n from by omega]
      rw [e3]
      simp only [List.length_cons]
      rw [show i + 1 + (putN (n / 128)).length = i + ((putN (n / 128)).length + 1) from by omega]
/-- What Number answers, where it answers: one writing. -/
theorem rdN_one (bs : List Nat) (at_ : Int) (h : ∀ x ∈ bs, x < 256) (he : (rdN bs at_).2.2 = 0) :
    ∃ k : Nat, at_ = k ∧ (rdN bs at_).2.1 = ((k + (putN (rdN bs at_).1).length : Nat) : Int) ∧ k + (putN (rdN bs at_).1).length ≤ bs.length ∧
      (bs.drop k).take (putN (rdN bs at_).1).length = putN (rdN bs at_).1 := by
  unfold rdN at he ⊢
  by_cases hb : at_ < 0 ∨ (bs.length : Int) < at_
  · rw [if_pos hb] at he; simp at he
  · rw [if_neg hb] at he ⊢
    obtain ⟨k, rfl⟩ := Int.eq_ofNat_of_zero_le (show 0 ≤ at_ by omega)
    simp only [Int.toNat_natCast] at he ⊢
    by_cases hr : (rdF (bs.drop k) 0 0).2.2 = 0
    · rw [if_pos hr]
      obtain ⟨V, h1, h2, h3, h4, _⟩ := rdF_one (bs.drop k) 0 0 (fun x hx => h x (List.mem_of_mem_drop hx)) hr
      simp only [Nat.pow_zero, Nat.mul_one, Nat.zero_add] at h1 h2
      refine ⟨k, rfl, ?_, ?_, ?_⟩
      · simp only [h1, h2]; omega
      · simp only [h1]; rw [List.length_drop] at h4; omega
      · simp only [h1]; exact h3
    · rw [if_neg hr] at he; exact absurd he hr
theorem rdN_put (pre : List Nat) (n : Nat) (rest : List Nat) (hn : n < 18446744073709551616) :
    rdN (pre ++ (putN n ++ rest)) (pre.length : Nat) = (n, ((pre.length + (putN n).length : Nat) : Int), 0) := by
  unfold rdN
  rw [if_neg (by simp; omega)]
  simp only [Int.toNat_natCast, List.drop_left]
  rw [rdF_put n 0 0 rest (by simpa using hn) (by omega) (by omega)]
  simp
theorem zz_unz (n : Nat) : zz (unz n) = n := by
  unfold zz unz
  split <;> split <;> omega
theorem unz_zz (i : Int) : unz (zz i) = i := by
  unfold zz unz
  split <;> split <;> omega
/-- What Bytes answers, where it answers: one writing. -/
theorem rdB_one (bs : List Nat) (at_ most : Int) (h : ∀ x ∈ bs, x < 256) (he : (rdB bs at_ most).2.2 = 0) :
    ∃ k : Nat, at_ = k ∧ (rdB bs at_ most).2.1 = ((k + (putN (rdB bs at_ most).1.length ++ (rdB bs at_ most).1).length : Nat) : Int) ∧
      k + (putN (rdB bs at_ most).1.length ++ (rdB bs at_ most).1).length ≤ bs.length ∧
      (bs.drop k).take (putN (rdB bs at_ most).1.length ++ (rdB bs at_ most).1).length = putN (rdB bs at_ most).1.length ++ (rdB bs at_ most).1 := by
  unfold rdB at he ⊢
  simp only at he ⊢
  by_cases h1 : (rdN bs at_).2.2 ≠ 0
  · rw [if_pos h1] at he; exact absurd he h1
  · rw [if_neg h1] at he ⊢
    by_cases h2 : most < 0 ∨ most < ((rdN bs at_).1 : Int) ∨ (bs.length : Int) - (rdN bs at_).2.1 < ((rdN bs at_).1 : Int)
    · rw [if_pos h2] at he; simp at he
    · rw [if_neg h2]
      obtain ⟨k, hk, e1, e2, e3⟩ := rdN_one bs at_ h (by omega)
      obtain ⟨V, eV⟩ : ∃ V, (rdN bs at_).1 = V := ⟨_, rfl⟩
      rw [eV] at e1 e2 e3 h2 ⊢
      rw [e1] at h2 ⊢
      simp only [Int.toNat_natCast]
      have hl : ((bs.drop (k + (putN V).length)).take V).length = V := by rw [List.length_take, List.length_drop]; omega
      refine ⟨k, hk, ?_, ?_, ?_⟩
      · rw [List.length_append, hl]; omega
      · rw [List.length_append, hl]; omega
      · rw [List.length_append, hl, List.take_add, e3, List.drop_drop]
end Go.Proofs.YtlnneacgllhdhaaGreatDoor.OctMath
end
section
namespace Go.Proofs.YtlnneacgllhdhaaGreatDoor
open OctMath
set_option linter.unusedVariables false
/-- A reading: from a place, a thing and the place behind it, or nothing. -/
abbrev Rd (α : Type) := Nat → Option (α × Nat)
def Rd.pure {α : Type} (x : α) : Rd α := fun at_ => some (x, at_)
def Rd.bind {α β : Type} (r : Rd α) (f : α → Rd β) : Rd β := fun at_ => match r at_ with
  | some (x, p) => f x p
  | none => none
theorem Rd.bind_some {α β : Type} {r : Rd α} {f : α → Rd β} {at_ p : Nat} {x : α} (h : r at_ = some (x, p)) : r.bind f at_ = f x p := by unfold Rd.bind; rw [h]
theorem Rd.bind_none {α β : Type} {r : Rd α} {f : α → Rd β} {at_ : Nat} (h : r at_ = none) : r.bind f at_ = none := by unfold Rd.bind; rw [h]
def rNum (bs : List Nat) : Rd Nat := fun at_ => if (rdN bs at_).2.2 = 0 then some ((rdN bs at_).1, (rdN bs at_).2.1.toNat) else none
def rInt (bs : List Nat) : Rd Int := fun at_ => (rNum bs at_).map fun x => (unz x.1, x.2)
def rWord (bs : List Nat) : Rd Nat := fun at_ => match rNum bs at_ with
  | some (n, p) => if n < 4294967296 then some (n, p) else none
  | none => none
def rFlag (bs : List Nat) : Rd Bool := fun at_ => if at_ < bs.length ∧ bs.getD at_ 0 ≤ 1 then some (decide (0 < bs.getD at_ 0), at_ + 1) else none
def rText (bs : List Nat) : Rd (List Nat) := fun at_ => if (rdB bs at_ 1048576).2.2 = 0 then some ((rdB bs at_ 1048576).1, (rdB bs at_ 1048576).2.1.toNat) else none
/-- k things one behind the other. -/
def rTimes {α : Type} (one : Rd α) : Nat → Rd (List α)
  | 0 => Rd.pure []
  | k + 1 => (rTimes one k).bind fun l => one.bind fun x => Rd.pure (l ++ [x])
def rList {α : Type} (bs : List Nat) (one : Rd α) : Rd (List α) := (rNum bs).bind fun n p => if 1048576 < n ∨ bs.length - p < n then none else rTimes one n p
def rMem (bs : List Nat) : Rd (Int × Int) := (rInt bs).bind fun i => (rInt bs).bind fun w => Rd.pure (i, w)
def rMap (bs : List Nat) : Rd (Nat × List (Int × Int)) := (rNum bs).bind fun e => (rList bs (rMem bs)).bind fun l => Rd.pure (e, l)
def rConf (bs : List Nat) : Rd (List Int × List Int) := (rList bs (rInt bs)).bind fun v => (rList bs (rInt bs)).bind fun l => Rd.pure (v, l)
structure IdT where
  ver : Nat
  idx : Int
  ep : Nat
def rId (bs : List Nat) : Rd IdT := (rNum bs).bind fun v => (rInt bs).bind fun i => (rNum bs).bind fun e => Rd.pure ⟨v, i, e⟩
structure HdT where
  id : IdT
  k : Int
  n : Int
  size : Int
  sum : Nat
def rHd (bs : List Nat) : Rd HdT := (rId bs).bind fun d => (rInt bs).bind fun k => (rInt bs).bind fun n => (rInt bs).bind fun s => (rWord bs).bind fun m => Rd.pure ⟨d, k, n, s, m⟩
/-- What a reading that goes well has read: the bytes that the thing is put as. -/
structure Wrote {α : Type} (bs : List Nat) (r : Rd α) (put : α → List Nat) : Prop where
  rd : ∀ at_ x p, r at_ = some (x, p) → at_ ≤ bs.length → at_ ≤ p ∧ p ≤ bs.length ∧ (bs.drop at_).take (p - at_) = put x
theorem Wrote.pure {α : Type} (bs : List Nat) (x : α) : Wrote bs (Rd.pure x) (fun _ => []) := ⟨fun at_ y p h hl => by cases h; exact ⟨Nat.le_refl _, hl, by simp⟩⟩
theorem take_join (bs : List Nat) {a p q : Nat} (h1 : a ≤ p) (h2 : p ≤ q) : (bs.drop a).take (q - a) = (bs.drop a).take (p - a) ++ (bs.drop p).take (q - p) := by
  have e : q - a = (p - a) + (q - p) := by omega
  rw [e, List.take_add, List.drop_drop, show a + (p - a) = p by omega]
/-- Two readings one behind the other. -/
theorem Wrote.bind {α β : Type} {bs : List Nat} {r : Rd α} {f : α → Rd β} {put : α → List Nat} {put2 : α → β → List Nat} {put3 : β → List Nat} (h : Wrote bs r put) (hf : ∀ x, Wrote bs (f x) (put2 x)) (he : ∀ at_ x p y q, r at_ = some (x, p) → f x p = some (y, q) → put3 y = put x ++ put2 x y) : Wrote bs (r.bind f) put3 := by
  refine ⟨fun at_ y q hy hl => ?_⟩
  unfold Rd.bind at hy
  cases hr : r at_ with
  | none => rw [hr] at hy; cases hy
  | some v =>
    obtain ⟨x, p⟩ := v
    rw [hr] at hy
    obtain ⟨a1, a2, a3⟩ := h.rd at_ x p hr hl
    obtain ⟨b1, b2, b3⟩ := (hf x).rd p y q hy a2
    exact ⟨by omega, b2, by rw [take_join bs a1 b1, a3, b3, he at_ x p y q hr hy]⟩
end Go.Proofs.YtlnneacgllhdhaaGreatDoor
end
section
namespace Go.Proofs.YtlnneacgllhdhaaGreatDoor
open Go.RowKit OctMath
set_option linter.unusedVariables false
/-- The blocks that H names stay. -/
structure Keep (H : Nat → Prop) (w w' : World) : Prop where
  os : w'.os = w.os
  tape : w'.tape = w.tape
  output : w'.output = w.output
  size : w.heap.size ≤ w'.heap.size
  block : ∀ k, H k → k < w.heap.size → w'.heap[k]? = w.heap[k]?
theorem Keep.refl (H : Nat → Prop) (w : World) : Keep H w w := ⟨rfl, rfl, rfl, Nat.le_refl _, fun _ _ _ => rfl⟩
theorem Keep.trans {H : Nat → Prop} {w w' w'' : World} (h : Keep H w w') (k : Keep H w' w'') : Keep H w w'' :=
  ⟨k.os.trans h.os, k.tape.trans h.tape, k.output.trans h.output, Nat.le_trans h.size k.size, fun i hi hl => (k.block i hi (Nat.lt_of_lt_of_le hl h.size)).trans (h.block i hi hl)⟩
theorem Keep.mono {H H' : Nat → Prop} {w w' : World} (h : Keep H w w') (hs : ∀ k, H' k → H k) : Keep H' w w' := ⟨h.os, h.tape, h.output, h.size, fun k hk => h.block k (hs k hk)⟩
theorem Keep.below {H : Nat → Prop} {w w' : World} (hb : Below w.heap.size w w') : Keep H w w' := ⟨hb.os, hb.tape, hb.output, hb.size, fun k _ hl => hb.block k hl⟩
theorem Keep.grown {H : Nat → Prop} {w w' : World} {row : Option Nat} (hg : w.grownBy w' row) (hr : ∀ k, H k → some k ≠ row) : Keep H w w' := ⟨hg.os, hg.tape, hg.output, hg.size, fun k hk hl => hg.block k hl (hr k hk)⟩
theorem Keep.only {H : Nat → Prop} {w w' : World} {g : Nat} (ho : Only g w w') (hg : ¬ H g) : Keep H w w' := Keep.grown ho.grown (fun k hk e => hg (by injection e with e; rwa [← e]))
theorem Keep.set_ (H : Nat → Prop) (w : World) {g : Nat} (i : Nat) (u : Value) (hg : ¬ H g) : Keep H w (w.setCell ⟨g, i, none⟩ u) := Keep.only (Only.set_ w g i u) hg
theorem Keep.alloc {H : Nat → Prop} {w w' : World} (h : Keep H w w') (o : Obj) : Keep H w (w'.alloc o) := h.trans (Keep.below ((Below.refl _ _).alloc (Nat.le_refl _) o))
theorem Keep.blk {H : Nat → Prop} {w w' : World} {g : Nat} {t : TypeId} {cs : Array Value} (h : Keep H w w') (hB : Blk w g t cs) (hg : H g) : Blk w' g t cs := (h.block g hg hB.lt).trans hB
theorem Keep.toBelow {H : Nat → Prop} {w w' : World} {B : Nat} (h : Keep H w w') (hB : B ≤ w.heap.size) (hs : ∀ k, k < B → H k) : Below B w w' := ⟨h.os, h.tape, h.output, h.size, fun k hk => h.block k (hs k hk) (by omega)⟩
theorem Keep.cell {H : Nat → Prop} {w w' : World} {p : Addr} {v : Value} (h : Keep H w w') (hc : w.cell? p = some v) (hp : H p.block) : w'.cell? p = some v := (World.cell?_of_block (h.block p.block hp (World.block_lt_of_cell? _ _ hc))).trans hc
theorem Keep.reads {H : Nat → Prop} {w w' : World} {A : Option Addr} {n size : Nat} {xs : List Value} (h : Keep H w w') (hr : Reads w w.heap.size size A n xs) (hp : 0 < n → ∀ ad, A = some ad → H ad.block) : Reads w' w'.heap.size size A n xs := by
  refine ⟨hr.1, fun hn => ?_⟩
  obtain ⟨ad, e, hb, hc⟩ := hr.2 hn
  exact ⟨ad, e, Nat.lt_of_lt_of_le hb h.size, fun j u hu => h.cell (hc j u hu) (by rw [block_of_add]; exact hp hn ad e)⟩
/-- P at block g, writing: what is written so far is xs; it lies in none of the blocks that H names. -/
structure Pen (H : Nat → Prop) (g : Nat) (xs : List Nat) (w : World) : Prop where
  out : ∃ v, Blk w g 139 #[v, .int .i64 0, .bool true, .bool false] ∧ w.ownsRow 0 5 1 v xs.length (xs.map bv) ∧ v.ownBlock ≠ some g ∧ (∀ k, H k → v.ownBlock ≠ some k)
theorem Pen.lt {H : Nat → Prop} {g : Nat} {xs : List Nat} {w : World} (h : Pen H g xs w) : g < w.heap.size := by
  obtain ⟨v, hB, _⟩ := h.out
  exact hB.lt
theorem Pen.mono {H H' : Nat → Prop} {g : Nat} {xs : List Nat} {w : World} (h : Pen H g xs w) (hs : ∀ k, H' k → H k ∨ w.heap.size ≤ k) : Pen H' g xs w := by
  obtain ⟨v, hB, hO, hg, hh⟩ := h.out
  exact ⟨v, hB, hO, hg, fun k hk e => (hs k hk).elim (fun h => hh k h e) (fun h => by have := (hO.lt k e).2; omega)⟩
theorem Pen.later {H : Nat → Prop} {g : Nat} {xs : List Nat} {w w' : World} (h : Pen H g xs w) (hb : Below w.heap.size w w') : Pen H g xs w' := by
  obtain ⟨v, hB, hO, hg, hh⟩ := h.out
  exact ⟨v, hB.below hb hB.lt, hO.kept (row := none) ⟨hb.os, hb.tape, hb.output, hb.size, fun k hk _ => hb.block k hk⟩ (by cases h : v.ownBlock with | none => exact .inl rfl | some x => exact .inr (by simp)), hg, hh⟩
theorem Pen.only {H : Nat → Prop} {g k : Nat} {xs : List Nat} {w w' : World} (h : Pen H g xs w) (ho : Only k w w') (hk : H k) (hg' : k ≠ g) : Pen H g xs w' := by
  obtain ⟨v, hB, hO, hg, hh⟩ := h.out
  exact ⟨v, ho.blk hB (Ne.symm hg'), ho.own hO (hh k hk), hg, hh⟩
theorem Pen.alloc {H : Nat → Prop} {g : Nat} {xs : List Nat} {w : World} (h : Pen H g xs w) (o : Obj) : Pen H g xs (w.alloc o) := h.later ((Below.refl _ _).alloc (Nat.le_refl _) o)
/-- What H may be, seen from a world. -/
def Safe (H : Nat → Prop) (g : Nat) (w : World) : Prop := ∀ k, H k → k < w.heap.size ∧ k ≠ g
def RetPen (H : Nat → Prop) (g : Nat) (ys : List Nat) (v : Value) (w : World) (e : Ending) (w' : World) : Prop := e = .returned v ∧ Pen H g ys w' ∧ Keep H w w'
end Go.Proofs.YtlnneacgllhdhaaGreatDoor
end
section
namespace Go.Proofs.YtlnneacgllhdhaaGreatDoor
open Go.RowKit OctMath
set_option linter.unusedVariables false
/-- Blocks of a struct that is gone through (b), and of the answer (b + 1). -/
def Two (H : Nat → Prop) (b : Nat) : Nat → Prop := fun k => H k ∨ k = b ∨ k = b + 1
structure Wr (t : TypeId) (H : Nat → Prop) (g b : Nat) (cs zs : Array Value) (w0 : World) (ys : List Nat) (w : World) : Prop where
  pen : Pen (Two H b) g ys w
  safe : Safe (Two H b) g w
  blk : Blk w b t cs
  res : Blk w (b + 1) t zs
  keep : Keep H w0 w
  nb : ¬ H b
  nr : ¬ H (b + 1)
theorem set_same {w : World} {g : Nat} {t : TypeId} {cs : Array Value} {i : Nat} {u : Value} (h : Blk w g t cs) (hi : cs[i]? = some u) : Blk (w.setCell ⟨g, i, none⟩ u) g t cs := by
  have h1 := h.set_ i u
  have e : cs.setIfInBounds i u = cs := by
    apply Array.ext_getElem?
    intro j
    rw [Array.getElem?_setIfInBounds]
    split
    · rename_i hij; subst hij; rw [hi]; split
      · rfl
      · rename_i hl; rw [Array.getElem?_eq_none (by omega)] at hi; cases hi
    · rfl
  rwa [e] at h1
section
variable {t : TypeId} {H : Nat → Prop} {g b : Nat} {cs zs : Array Value} {w0 w w' : World} {ys more : List Nat} {v : Value} {e : Ending}
theorem Wr.start (hp : Pen H g ys w) (hs : Safe H g w) (cs zs : Array Value) (t : TypeId) : Wr t H g w.heap.size cs zs w ys ((w.alloc (.cells cs t)).alloc (.cells zs t)) :=
  ⟨((hp.mono (H' := Two H w.heap.size) (fun k hk => by rcases hk with h | h | h; exact .inl h; exact .inr (by omega); exact .inr (by omega))).alloc _).alloc _,
   fun k hk => by
    have hl := hp.lt
    rcases hk with h | h | h
    · exact ⟨by have := (hs k h).1; simp; omega, (hs k h).2⟩
    · exact ⟨by simp; omega, by omega⟩
    · exact ⟨by simp; omega, by omega⟩,
   (Blk.new _ _ _).alloc _, by have h := Blk.new (w.alloc (.cells cs t)) t zs; simpa using h,
   ((Keep.refl H w).alloc _).alloc _, fun h => by have := (hs _ h).1; omega, fun h => by have := (hs _ h).1; omega⟩
theorem Wr.call (h : Wr t H g b cs zs w0 ys w) (hr : RetPen (Two H b) g (ys ++ more) v w e w') : Wr t H g b cs zs w0 (ys ++ more) w' := by
  obtain ⟨_, hp, hk⟩ := hr
  exact ⟨hp, fun k hq => ⟨Nat.lt_of_lt_of_le (h.safe k hq).1 hk.size, (h.safe k hq).2⟩, hk.blk h.blk (.inr (.inl rfl)), hk.blk h.res (.inr (.inr rfl)), h.keep.trans (hk.mono fun k hq => .inl hq), h.nb, h.nr⟩
theorem Wr.only {k : Nat} {cs' zs' : Array Value} (h : Wr t H g b cs zs w0 ys w) (hk : Two H b k) (hn : ¬ H k) (ho : Only k w w') (h1 : Blk w' b t cs') (h2 : Blk w' (b + 1) t zs') : Wr t H g b cs' zs' w0 ys w' :=
  ⟨h.pen.only ho hk (h.safe k hk).2, fun j hj => ⟨by rw [ho.size]; exact (h.safe j hj).1, (h.safe j hj).2⟩, h1, h2, h.keep.trans (Keep.only ho hn), h.nb, h.nr⟩
theorem Wr.set (h : Wr t H g b cs zs w0 ys w) {i : Nat} {u : Value} (hi : cs[i]? = some u) : Wr t H g b cs zs w0 ys (w.setCell ⟨b, i, none⟩ u) :=
  h.only (.inr (.inl rfl)) h.nb (Only.set_ w b i u) (set_same h.blk hi) ((Only.set_ w b i u).blk h.res (by omega))
end
/-- A text's bytes. -/
def octs (s : ByteArray) : List Nat := s.data.toList.map (·.toNat)
theorem octs_len (s : ByteArray) : (octs s).length = s.size := by unfold octs; rw [List.length_map, Array.length_toList]; rfl
theorem octs_bel (w : World) (e : TypeId) (s : ByteArray) : Below w.heap.size w (Lib.bytesWorld w e s) := by
  have h : Below w.heap.size w (w.drew.alloc (.cells (Lib.bytesCells w e s) e)) := ((Below.refl _ _).drew).alloc (Nat.le_refl _) _
  exact ⟨h.os, h.tape, h.output, by rw [Lib.bytesWorld_size]; omega, fun j hj => Lib.bytesWorld_at_old w e s j hj⟩
theorem octs_reads (w : World) (e : TypeId) (s : ByteArray) : Reads (Lib.bytesWorld w e s) (w.heap.size + 1) 1 (some ⟨w.heap.size, 0, none⟩) s.size ((octs s).map bv) := by
  refine ⟨by rw [List.length_map, octs_len]; omega, fun _ => ⟨_, rfl, Nat.lt_succ_self _, fun j u hu => ?_⟩⟩
  have hj : j < s.size := by
    rw [← octs_len s, ← List.length_map (f := bv)]
    exact (List.getElem?_eq_some_iff.1 hu).1
  have h5 : (⟨w.heap.size, 0, none⟩ : Addr).add j = ⟨w.heap.size, j, none⟩ := by unfold Addr.add; split <;> simp_all
  rw [h5, Lib.bytesWorld_cell w e s j hj, ← hu]
  have hj' : j < s.data.toList.length := by rw [Array.length_toList]; exact hj
  simp only [octs, List.getElem?_map, List.getElem?_eq_getElem hj', Option.map_some, bv, List.getD_eq_getElem?_getD, Option.getD_some]
end Go.Proofs.YtlnneacgllhdhaaGreatDoor
end
section
namespace Go.Proofs.YtlnneacgllhdhaaGreatDoor
open Go.RowKit OctMath
set_option linter.unusedVariables false
section
variable {P : Program} {l : List Oper} {md : Region.Mode} {Q : Exit → Act → World → Prop} {S0 S S0' S' : World → Prop} {s : Nat}
end
/-- Bytes that come back. -/
def RetO (ys : List Nat) (w : World) (e : Ending) (w' : World) : Prop := ∃ A cap, e = .returned (.slice A ys.length cap) ∧ Reads w' w'.heap.size 1 A ys.length (ys.map bv) ∧ Below w.heap.size w w'
end Go.Proofs.YtlnneacgllhdhaaGreatDoor
end
section
namespace Go.Proofs.YtlnneacgllhdhaaGreatDoor
open Go.RowKit OctMath
set_option linter.unusedVariables false
/-- The panic of bytes that are no such thing. -/
def badP : List PanicEntry := [{ v := .iface 202 (.agg #[]), recovered := false }]
set_option maxRecDepth 100000 in
theorem took_ok (g p : Nat) (A : Option Addr) (n cap a : Nat) (w : World) (hB : Hid (Blk w g 204 #[.slice A n cap, .int .i64 (a : Int)])) :
    Calls Tryz.prog 138 #[.pointer (some ⟨g, 0, none⟩), .int .i64 (p : Int), .int .i64 0] w fun e w' => e = .returned (.tuple #[]) ∧ w' = w.setCell ⟨g, 1, none⟩ (.int .i64 (p : Int)) := by
  have c1 := hB.out.cell 1
  have f1 := hB.out.frozen 1
  go_enter Tryz.func138, Tryz.ntmps138
  go_wp2
  go_end0
  exact ⟨rfl, rfl⟩
set_option maxRecDepth 100000 in
theorem took_bad (g : Nat) (p er : Int) (w : World) (he : er ≠ 0) :
    Calls Tryz.prog 138 #[.pointer (some ⟨g, 0, none⟩), .int .i64 p, .int .i64 er] w fun e w' => e = .panicked badP ∧ w' = w := by
  have h0 : (er != 0) = true := by rw [bne_iff_ne]; exact he
  go_enter Tryz.func138, Tryz.ntmps138
  go_wp2
  exact ⟨rfl, rfl, rfl⟩
/-- All blocks but g. -/
def Not (g : Nat) : Nat → Prop := fun k => k ≠ g
/-- A page: its bytes, and how far it was read. -/
structure PG (g : Nat) (A : Option Addr) (n cap : Nat) (bs : List Nat) (p : Nat) (w : World) : Prop where
  blk : Blk w g 204 #[.slice A n cap, .int .i64 (p : Int)]
  rd : Reads w w.heap.size 1 A n (bs.map bv)
  ne : 0 < n → ∀ ad, A = some ad → Not g ad.block
  byt : Byt bs
  len : bs.length = n
  le : n ≤ cap
  mx : cap ≤ maxLen
  reach : n ≤ 140737488351232
  pl : p ≤ n
theorem PG.turn {g : Nat} {A : Option Addr} {n cap p q : Nat} {bs : List Nat} {w w' : World} (h : PG g A n cap bs p w) (k : Keep (Not g) w w') (hB : Blk w' g 204 #[.slice A n cap, .int .i64 (q : Int)]) (hq : q ≤ n) : PG g A n cap bs q w' :=
  ⟨hB, k.reads h.rd h.ne, h.ne, h.byt, h.len, h.le, h.mx, h.reach, hq⟩
theorem PG.drew {g : Nat} {A : Option Addr} {n cap p : Nat} {bs : List Nat} {w : World} (h : PG g A n cap bs p w) : PG g A n cap bs p w.drew := ⟨h.blk, h.rd, h.ne, h.byt, h.len, h.le, h.mx, h.reach, h.pl⟩
theorem keep_drew {H : Nat → Prop} {w : World} : Keep H w w.drew := ⟨rfl, rfl, rfl, Nat.le_refl _, fun _ _ _ => rfl⟩
/-- What a reader of a page does. -/
def RetR {α : Type} (r : Option (α × Nat)) (val : α → World → Value → Prop) (g : Nat) (A : Option Addr) (n cap : Nat) (bs : List Nat) (w : World) (e : Ending) (w' : World) : Prop := match r with
  | some (x, q) => ∃ v, e = .returned v ∧ val x w' v ∧ PG g A n cap bs q w' ∧ Keep (Not g) w w'
  | none => e = .panicked badP ∧ Keep (Not g) w w'
theorem RetR.some_ {α : Type} {x : α} {q : Nat} {val : α → World → Value → Prop} {g : Nat} {A : Option Addr} {n cap : Nat} {bs : List Nat} {w w' : World} {v : Value} (h1 : val x w' v) (h2 : PG g A n cap bs q w') (h3 : Keep (Not g) w w') : RetR (some (x, q)) val g A n cap bs w (.returned v) w' := ⟨v, rfl, h1, h2, h3⟩
theorem RetR.none_ {α : Type} {val : α → World → Value → Prop} {g : Nat} {A : Option Addr} {n cap : Nat} {bs : List Nat} {w w' : World} (h3 : Keep (Not g) w w') : RetR (none : Option (α × Nat)) val g A n cap bs w (.panicked badP) w' := ⟨rfl, h3⟩
def vU64 (x : Nat) (_ : World) (v : Value) : Prop := v = .int .u64 (x : Int) ∧ x < 18446744073709551616
def vI64 (x : Int) (_ : World) (v : Value) : Prop := v = .int .i64 x ∧ -9223372036854775808 ≤ x ∧ x ≤ 9223372036854775807
theorem unz_rng {n : Nat} (h : n < 18446744073709551616) : -9223372036854775808 ≤ unz n ∧ unz n ≤ 9223372036854775807 := by unfold unz; split <;> omega
theorem PG.put {g : Nat} {A : Option Addr} {n cap p q : Nat} {bs : List Nat} {w : World} (h : PG g A n cap bs p w) (hq : q ≤ n) : PG g A n cap bs q (w.setCell ⟨g, 1, none⟩ (.int .i64 (q : Int))) ∧ Keep (Not g) w (w.setCell ⟨g, 1, none⟩ (.int .i64 (q : Int))) := by
  have k := Keep.set_ (Not g) w (g := g) 1 (.int .i64 (q : Int)) (fun h => h rfl)
  exact ⟨h.turn k (by have := h.blk.set_ 1 (.int .i64 (q : Int)); simpa using this) hq, k⟩
set_option maxRecDepth 100000 in
set_option maxHeartbeats 1000000 in
theorem pg_number (g : Nat) (A : Option Addr) (n cap : Nat) (bs : List Nat) (p : Nat) (w : World) (hP : Hid (PG g A n cap bs p w)) :
    Calls Tryz.prog 122 #[.pointer (some ⟨g, 0, none⟩)] w (RetR (rNum bs p) vU64 g A n cap bs w) := by
  have c0 := hP.out.blk.cell 0
  have c1 := hP.out.blk.cell 1
  have HN := Lib.hid (number_any A cap n p bs w.drew hP.out.byt hP.out.len hP.out.drew.rd hP.out.le hP.out.mx)
  obtain ⟨h1, h2, h3⟩ := rdN_lt bs p hP.out.byt
  rw [hP.out.len] at h3
  have HR := Lib.hid (show rNum bs p = if (rdN bs p).2.2 = 0 then some ((rdN bs p).1, (rdN bs p).2.1.toNat) else none from rfl)
  generalize rdN bs p = r at *
  obtain ⟨v, q, er⟩ := r
  simp only at HN HR h1 h2 h3
  obtain ⟨q, rfl⟩ := Int.eq_ofNat_of_zero_le h2
  by_cases he : er = 0
  · subst he
    rw [if_pos rfl] at HR
    have HT := Lib.hid (took_ok g q A n cap p w.drew (Lib.hid hP.out.blk))
    have HE := Lib.hid (hP.out.drew.put (q := q) (by omega))
    go_enter Tryz.func122, Tryz.ntmps122
    go_wp2
    go_region_held3 (fun w' => w'.cell? ⟨g, 0, none⟩ = some (.slice A n cap) ∧ w'.cell? ⟨g, 1, none⟩ = some (.int .i64 (p : Int))) (first | exact ⟨c0, c1⟩ | fail) (first
      | (go_at_call 46; refine HN.out.mono ?_; rintro e w1 ⟨rfl, hw⟩; rw [← hw]; clear hw))
    go_wp2_with (go_at_call 138; refine HT.out.mono ?_; rintro e w2 ⟨rfl, hw⟩; rw [hw]; clear hw)
    go_ret
    rw [HR.out]
    exact RetR.some_ ⟨rfl, h1⟩ HE.out.1 (keep_drew.trans HE.out.2)
  · rw [if_neg he] at HR
    have HT := Lib.hid (took_bad g q er w.drew (by omega))
    go_enter Tryz.func122, Tryz.ntmps122
    go_wp2
    go_region_held3 (fun w' => w'.cell? ⟨g, 0, none⟩ = some (.slice A n cap) ∧ w'.cell? ⟨g, 1, none⟩ = some (.int .i64 (p : Int))) (first | exact ⟨c0, c1⟩ | fail) (first
      | (go_at_call 46; refine HN.out.mono ?_; rintro e w1 ⟨rfl, hw⟩; rw [← hw]; clear hw))
    go_wp2_with (go_at_call 138; refine HT.out.mono ?_; rintro e w2 ⟨rfl, hw⟩; rw [hw]; clear hw)
    refine ⟨rfl, ?_⟩
    rw [HR.out]
    exact RetR.none_ keep_drew
end Go.Proofs.YtlnneacgllhdhaaGreatDoor
end
section
namespace Go.Proofs.YtlnneacgllhdhaaGreatDoor
open Go.RowKit OctMath
set_option linter.unusedVariables false
set_option maxRecDepth 100000 in
set_option maxHeartbeats 1000000 in
theorem pg_int (g : Nat) (A : Option Addr) (n cap : Nat) (bs : List Nat) (p : Nat) (w : World) (hP : Hid (PG g A n cap bs p w)) :
    Calls Tryz.prog 123 #[.pointer (some ⟨g, 0, none⟩)] w (RetR (rInt bs p) vI64 g A n cap bs w) := by
  have c0 := hP.out.blk.cell 0
  have c1 := hP.out.blk.cell 1
  have HN := Lib.hid (int_any A cap n p bs w.drew hP.out.byt hP.out.len hP.out.drew.rd hP.out.le hP.out.mx)
  obtain ⟨h1, h2, h3⟩ := rdN_lt bs p hP.out.byt
  rw [hP.out.len] at h3
  have HR := Lib.hid (show rInt bs p = if (rdN bs p).2.2 = 0 then some (unz (rdN bs p).1, (rdN bs p).2.1.toNat) else none from by unfold rInt rNum; split <;> rfl)
  generalize rdN bs p = r at *
  obtain ⟨v, q, er⟩ := r
  simp only at HN HR h1 h2 h3
  obtain ⟨q, rfl⟩ := Int.eq_ofNat_of_zero_le h2
  by_cases he : er = 0
  · subst he
    rw [if_pos rfl] at HR
    have HT := Lib.hid (took_ok g q A n cap p w.drew (Lib.hid hP.out.blk))
    have HE := Lib.hid (hP.out.drew.put (q := q) (by omega))
    go_enter Tryz.func123, Tryz.ntmps123
    go_wp2
    go_region_held3 (fun w' => w'.cell? ⟨g, 0, none⟩ = some (.slice A n cap) ∧ w'.cell? ⟨g, 1, none⟩ = some (.int .i64 (p : Int))) (first | exact ⟨c0, c1⟩ | fail) (first
      | (go_at_call 44; refine HN.out.mono ?_; rintro e w1 ⟨rfl, hw⟩; rw [← hw]; clear hw))
    go_wp2_with (go_at_call 138; refine HT.out.mono ?_; rintro e w2 ⟨rfl, hw⟩; rw [hw]; clear hw)
    go_ret
    rw [HR.out]
    exact RetR.some_ ⟨rfl, unz_rng h1⟩ HE.out.1 (keep_drew.trans HE.out.2)
  · rw [if_neg he] at HR
    have HT := Lib.hid (took_bad g q er w.drew (by omega))
    go_enter Tryz.func123, Tryz.ntmps123
    go_wp2
    go_region_held3 (fun w' => w'.cell? ⟨g, 0, none⟩ = some (.slice A n cap) ∧ w'.cell? ⟨g, 1, none⟩ = some (.int .i64 (p : Int))) (first | exact ⟨c0, c1⟩ | fail) (first
      | (go_at_call 44; refine HN.out.mono ?_; rintro e w1 ⟨rfl, hw⟩; rw [← hw]; clear hw))
    go_wp2_with (go_at_call 138; refine HT.out.mono ?_; rintro e w2 ⟨rfl, hw⟩; rw [hw]; clear hw)
    refine ⟨rfl, ?_⟩
    rw [HR.out]
    exact RetR.none_ keep_drew
/-- What Flag answers. -/
def rdFl (bs : List Nat) (p : Nat) : Bool × Int × Nat := if p < bs.length then (if bs.getD p 0 ≤ 1 then (decide (0 < bs.getD p 0), (p : Int) + 1, 0) else (false, 0, 41)) else if p = bs.length then (false, 0, 40) else (false, 0, 2)
set_option maxRecDepth 100000 in
set_option maxHeartbeats 1000000 in
theorem flag_any (A : Option Addr) (cap n p : Nat) (bs : List Nat) (w : World) (hb : Byt bs) (hn : bs.length = n) (hr : Reads w w.heap.size 1 A n (bs.map bv)) (hm : n ≤ maxLen) :
    Calls Tryz.prog 48 #[.slice A n cap, .int .i64 (p : Int)] w fun e w' => e = .returned (.tuple #[.bool (rdFl bs p).1, .int .i64 (rdFl bs p).2.1, .int .i64 (rdFl bs p).2.2]) ∧ w = w' := by
  unfold maxLen at hm
  have HR := Lib.hid (show rdFl bs p = if p < bs.length then (if bs.getD p 0 ≤ 1 then (decide (0 < bs.getD p 0), (p : Int) + 1, 0) else (false, 0, 41)) else if p = bs.length then (false, 0, 40) else (false, 0, 2) from rfl)
  rw [hn] at HR
  generalize rdFl bs p = r at *
  rcases Nat.lt_trichotomy p n with h | h | h
  · rw [if_pos h] at HR
    have d1 : decide ((p : Int) < 0) = false := decide_eq_false (by omega)
    have d2 : decide ((p : Int) > (n : Int)) = false := decide_eq_false (by omega)
    have d3 : decide (n < p) = false := decide_eq_false (by omega)
    have d4 : ((p : Int) == (n : Int)) = false := by rw [beq_eq_false_iff_ne]; omega
    obtain ⟨ad, rfl, hbl, hc⟩ := hr.byteD h
    have p0 : (0 : Int) ≤ (p : Int) := by omega
    have p1 : (p : Int) < (n : Int) := by omega
    have pb : (p : Int) + 1 ≤ 9223372036854775807 := by omega
    obtain ⟨x, hx⟩ : ∃ x, bs.getD p 0 = x := ⟨_, rfl⟩
    rw [hx] at HR hc
    clear hx
    by_cases h1 : x ≤ 1
    · rw [if_pos h1] at HR
      have d5 : decide ((x : Int) > 1) = false := decide_eq_false (by omega)
      have d6 : decide (1 < x) = false := decide_eq_false (by omega)
      go_enter Tryz.func48, Tryz.ntmps48
      go_wp2
      go_ret3
      rw [HR.out]
      exact ⟨by simp, rfl⟩
    · rw [if_neg h1] at HR
      have d5 : decide ((x : Int) > 1) = true := decide_eq_true (by omega)
      have d6 : decide (1 < x) = true := decide_eq_true (by omega)
      go_enter Tryz.func48, Tryz.ntmps48
      go_wp2
      go_ret3
      rw [HR.out]
      exact ⟨rfl, rfl⟩
  · subst h
    rw [if_neg (by omega), if_pos rfl] at HR
    have d1 : decide ((p : Int) < 0) = false := decide_eq_false (by omega)
    have d2 : decide ((p : Int) > (p : Int)) = false := decide_eq_false (by omega)
    go_enter Tryz.func48, Tryz.ntmps48
    go_wp2
    go_ret3
    rw [HR.out]
    exact ⟨rfl, rfl⟩
  · rw [if_neg (by omega), if_neg (by omega)] at HR
    have d1 : decide ((p : Int) < 0) = false := decide_eq_false (by omega)
    have d2 : decide ((p : Int) > (n : Int)) = true := decide_eq_true (by omega)
    have d3 : decide (n < p) = true := decide_eq_true h
    go_enter Tryz.func48, Tryz.ntmps48
    go_wp2
    go_ret3
    rw [HR.out]
    exact ⟨rfl, rfl⟩
def vBool (x : Bool) (_ : World) (v : Value) : Prop := v = .bool x
set_option maxRecDepth 100000 in
set_option maxHeartbeats 1000000 in
theorem pg_flag (g : Nat) (A : Option Addr) (n cap : Nat) (bs : List Nat) (p : Nat) (w : World) (hP : Hid (PG g A n cap bs p w)) :
    Calls Tryz.prog 140 #[.pointer (some ⟨g, 0, none⟩)] w (RetR (rFlag bs p) vBool g A n cap bs w) := by
  have c0 := hP.out.blk.cell 0
  have c1 := hP.out.blk.cell 1
  have HN := Lib.hid (flag_any A cap n p bs w.drew hP.out.byt hP.out.len hP.out.drew.rd (Nat.le_trans hP.out.le hP.out.mx))
  obtain ⟨h2, h3⟩ : 0 ≤ (rdFl bs p).2.1 ∧ (rdFl bs p).2.1 ≤ (n : Int) := by
    have := hP.out.len
    unfold rdFl
    split
    · split <;> exact ⟨by dsimp only; omega, by dsimp only; omega⟩
    · split <;> exact ⟨by dsimp only; omega, by dsimp only; omega⟩
  have HR := Lib.hid (show rFlag bs p = if (rdFl bs p).2.2 = 0 then some ((rdFl bs p).1, (rdFl bs p).2.1.toNat) else none from by
    unfold rFlag rdFl
    by_cases c1 : p < bs.length
    · rw [if_pos c1]
      by_cases c2 : bs.getD p 0 ≤ 1
      · rw [if_pos ⟨c1, c2⟩, if_pos c2, if_pos rfl]; rfl
      · rw [if_neg (fun h => c2 h.2), if_neg c2, if_neg (by dsimp only; omega)]
    · rw [if_neg (fun h => c1 h.1), if_neg c1]
      split
      · rw [if_neg (by dsimp only; omega)]
      · rw [if_neg (by dsimp only; omega)])
  generalize rdFl bs p = r at *
  obtain ⟨v, q, er⟩ := r
  simp only at HN HR h2 h3
  obtain ⟨q, rfl⟩ := Int.eq_ofNat_of_zero_le h2
  by_cases he : er = 0
  · subst he
    rw [if_pos rfl] at HR
    have HT := Lib.hid (took_ok g q A n cap p w.drew (Lib.hid hP.out.blk))
    have HE := Lib.hid (hP.out.drew.put (q := q) (by omega))
    go_enter Tryz.func140, Tryz.ntmps140
    go_wp2
    go_region_held3 (fun w' => w'.cell? ⟨g, 0, none⟩ = some (.slice A n cap) ∧ w'.cell? ⟨g, 1, none⟩ = some (.int .i64 (p : Int))) (first | exact ⟨c0, c1⟩ | fail) (first
      | (go_at_call 48; refine HN.out.mono ?_; rintro e w1 ⟨rfl, hw⟩; rw [← hw]; clear hw))
    go_wp2_with (go_at_call 138; refine HT.out.mono ?_; rintro e w2 ⟨rfl, hw⟩; rw [hw]; clear hw)
    go_ret
    rw [HR.out]
    exact RetR.some_ rfl HE.out.1 (keep_drew.trans HE.out.2)
  · rw [if_neg he] at HR
    have HT := Lib.hid (took_bad g q er w.drew (by omega))
    go_enter Tryz.func140, Tryz.ntmps140
    go_wp2
    go_region_held3 (fun w' => w'.cell? ⟨g, 0, none⟩ = some (.slice A n cap) ∧ w'.cell? ⟨g, 1, none⟩ = some (.int .i64 (p : Int))) (first | exact ⟨c0, c1⟩ | fail) (first
      | (go_at_call 48; refine HN.out.mono ?_; rintro e w1 ⟨rfl, hw⟩; rw [← hw]; clear hw))
    go_wp2_with (go_at_call 138; refine HT.out.mono ?_; rintro e w2 ⟨rfl, hw⟩; rw [hw]; clear hw)
    refine ⟨rfl, ?_⟩
    rw [HR.out]
    exact RetR.none_ keep_drew
def vU32 (x : Nat) (_ : World) (v : Value) : Prop := v = .int .u32 (x : Int) ∧ x < 4294967296
set_option maxRecDepth 100000 in
set_option maxHeartbeats 1000000 in
theorem pg_word (g : Nat) (A : Option Addr) (n cap : Nat) (bs : List Nat) (p : Nat) (w : World) (hP : Hid (PG g A n cap bs p w)) :
    Calls Tryz.prog 129 #[.pointer (some ⟨g, 0, none⟩)] w (RetR (rWord bs p) vU32 g A n cap bs w) := by
  have HR := Lib.hid (show rWord bs p = match rNum bs p with | some (n, p) => if n < 4294967296 then some (n, p) else none | none => none from rfl)
  have HC := Lib.hid (pg_number g A n cap bs p w hP)
  cases hq : rNum bs p with
  | none =>
    rw [hq] at HR HC
    simp only at HR
    go_enter Tryz.func129, Tryz.ntmps129
    go_wp2_with (go_at_call 122; refine HC.out.mono ?_; rintro e w1 ⟨rfl, hk⟩; have HK := Lib.hid hk; clear hk)
    refine ⟨rfl, ?_⟩
    rw [HR.out]
    exact RetR.none_ HK.out
  | some x =>
    obtain ⟨x, q⟩ := x
    rw [hq] at HR HC
    simp only at HR
    by_cases h : x < 4294967296
    · rw [if_pos h] at HR
      have e1 : (x : Int) / 4294967296 = 0 := by omega
      have e2 : IntKind.u32.wrap (x : Int) = (x : Int) := by rw [IntKind.wrap_u32]; omega
      go_enter Tryz.func129, Tryz.ntmps129
      go_wp2_with (go_at_call 122; refine HC.out.mono ?_; rintro e w1 ⟨v, rfl, ⟨rfl, hx⟩, hp1, hk⟩; have HP1 := Lib.hid hp1; have HK := Lib.hid hk; clear hp1 hk)
      go_ret
      rw [HR.out]
      exact RetR.some_ ⟨rfl, h⟩ HP1.out HK.out
    · rw [if_neg h] at HR
      have e1 : decide ((x : Int) / 4294967296 > 0) = true := decide_eq_true (by omega)
      have e3 : decide (0 < (x : Int) / 4294967296) = true := decide_eq_true (by omega)
      go_enter Tryz.func129, Tryz.ntmps129
      go_wp2_with (go_at_call 122; refine HC.out.mono ?_; rintro e w1 ⟨v, rfl, ⟨rfl, hx⟩, hp1, hk⟩; have HK := Lib.hid hk; clear hp1 hk)
      refine ⟨rfl, ?_⟩
      rw [HR.out]
      exact RetR.none_ HK.out
end Go.Proofs.YtlnneacgllhdhaaGreatDoor
end
