/-
  THE REFERENCE'S WRITER: lengths, short numbers, names, headers, rows of nothing, configurations, texts; PLAIN LAWS: a number has one writing; what is put is read again. No program in sight; READING, in plain words: what is read of bytes at a place, and how far; THE REFERENCE'S WRITER: what it begins with, and what was written. (lines of PenW3 that serve every seat). (joined out of PenW2, OctOneM, PaMath, PenB by shake.py)
-/
import Derived.Lib.ConvBytes
import Derived.Test.YthgiafjiemiifaaGreatPbk04
import Derived.Test.YthgiafjiemiifaaGreatPbk02
section
namespace Go.Proofs.YthgiafjiemiifaaGreat
open Go.RowKit OctMath
set_option linter.unusedVariables false
/-- Blocks of a struct that is gone through (b), and of the answer (b + 1). -/
def Two (H : Nat → Prop) (b : Nat) : Nat → Prop := fun k => H k ∨ k = b ∨ k = b + 1
structure Wr (t : TypeId) (H : Nat → Prop) (g b : Nat) (cs zs : Array Value) (w0 : World) (ys : List Nat) (w : World) : Prop where
  pen : Pen (Two H b) g ys w
  safe : Safe (Two H b) g w
  blk : Blk w b t cs
  res : Blk w (b + 1) t zs
  keep : Keep H w0 w
  nb : ¬ H b
  nr : ¬ H (b + 1)
theorem set_same {w : World} {g : Nat} {t : TypeId} {cs : Array Value} {i : Nat} {u : Value} (h : Blk w g t cs) (hi : cs[i]? = some u) : Blk (w.setCell ⟨g, i, none⟩ u) g t cs := by
  have h1 := h.set_ i u
  have e : cs.setIfInBounds i u = cs := by
    apply Array.ext_getElem?
    intro j
    rw [Array.getElem?_setIfInBounds]
    split
    · rename_i hij; subst hij; rw [hi]; split
      · rfl
      · rename_i hl; rw [Array.getElem?_eq_none (by omega)] at hi; cases hi
    · rfl
  rwa [e] at h1
section
variable {t : TypeId} {H : Nat → Prop} {g b : Nat} {cs zs : Array Value} {w0 w w' : World} {ys more : List Nat} {v : Value} {e : Ending}
theorem Wr.start (hp : Pen H g ys w) (hs : Safe H g w) (cs zs : Array Value) (t : TypeId) : Wr t H g w.heap.size cs zs w ys ((w.alloc (.cells cs t)).alloc (.cells zs t)) :=
  ⟨((hp.mono (H' := Two H w.heap.size) (fun k hk => by rcases hk with h | h | h; exact .inl h; exact .inr (by omega); exact .inr (by omega))).alloc _).alloc _,
   fun k hk => by
    have hl := hp.lt
    rcases hk with h | h | h
    · exact ⟨by have := (hs k h).1; simp; omega, (hs k h).2⟩
    · exact ⟨by simp; omega, by omega⟩
    · exact ⟨by simp; omega, by omega⟩,
   (Blk.new _ _ _).alloc _, by have h := Blk.new (w.alloc (.cells cs t)) t zs; simpa using h,
   ((Keep.refl H w).alloc _).alloc _, fun h => by have := (hs _ h).1; omega, fun h => by have := (hs _ h).1; omega⟩
theorem Wr.call (h : Wr t H g b cs zs w0 ys w) (hr : RetPen (Two H b) g (ys ++ more) v w e w') : Wr t H g b cs zs w0 (ys ++ more) w' := by
  obtain ⟨_, hp, hk⟩ := hr
  exact ⟨hp, fun k hq => ⟨Nat.lt_of_lt_of_le (h.safe k hq).1 hk.size, (h.safe k hq).2⟩, hk.blk h.blk (.inr (.inl rfl)), hk.blk h.res (.inr (.inr rfl)), h.keep.trans (hk.mono fun k hq => .inl hq), h.nb, h.nr⟩
theorem Wr.only {k : Nat} {cs' zs' : Array Value} (h : Wr t H g b cs zs w0 ys w) (hk : Two H b k) (hn : ¬ H k) (ho : Only k w w') (h1 : Blk w' b t cs') (h2 : Blk w' (b + 1) t zs') : Wr t H g b cs' zs' w0 ys w' :=
  ⟨h.pen.only ho hk (h.safe k hk).2, fun j hj => ⟨by rw [ho.size]; exact (h.safe j hj).1, (h.safe j hj).2⟩, h1, h2, h.keep.trans (Keep.only ho hn), h.nb, h.nr⟩
theorem Wr.set (h : Wr t H g b cs zs w0 ys w) {i : Nat} {u : Value} (hi : cs[i]? = some u) : Wr t H g b cs zs w0 ys (w.setCell ⟨b, i, none⟩ u) :=
  h.only (.inr (.inl rfl)) h.nb (Only.set_ w b i u) (set_same h.blk hi) ((Only.set_ w b i u).blk h.res (by omega))
end
set_option maxRecDepth 100000 in
theorem pen_len (H : Nat → Prop) (g : Nat) (xs : List Nat) (n : Nat) (w : World) (hp : Hid (Pen H g xs w)) (hS : Hid (Safe H g w)) (hn : n < 9223372036854775808) (hl : xs.length ≤ 70000000000000) :
    Calls Tryz.prog 105 #[.pointer (some ⟨g, 0, none⟩), .int .i64 n] w (RetPen H g (xs ++ putN n) (.int .i64 n) w) := by
  have e1 : IntKind.u64.wrap (n : Int) = (n : Int) := IntWalk.u64_in _ (by omega)
  go_enter Tryz.func105, Tryz.ntmps105
  go_wp2_with (go_at_call 45; refine (pen_u64 H g xs n _ hp hS (by omega) hl).mono ?_; rintro e w1 ⟨rfl, p1, k1⟩; have P1 := Lib.hid p1; have K1 := Lib.hid k1; have y2 : w1.cell? ⟨g, 2, none⟩ = some (.bool true) := (by obtain ⟨v, hB, _⟩ := p1.out; exact hB.cell 2); clear p1 k1)
  go_ret
  exact ⟨rfl, P1.out, K1.out⟩
set_option maxRecDepth 100000 in
theorem pen_u32 (H : Nat → Prop) (g : Nat) (xs : List Nat) (n : Nat) (w : World) (hp : Hid (Pen H g xs w)) (hS : Hid (Safe H g w)) (hn : n < 4294967296) (hl : xs.length ≤ 70000000000000) :
    Calls Tryz.prog 100 #[.pointer (some ⟨g, 0, none⟩), .int .u32 n] w (RetPen H g (xs ++ putN n) (.int .u32 n) w) := by
  have e0 : (n : Int) / 4294967296 = 0 := by omega
  go_enter Tryz.func100, Tryz.ntmps100
  go_wp2_with (go_at_call 45; refine (pen_u64 H g xs n _ hp hS (by omega) hl).mono ?_; rintro e w1 ⟨rfl, p1, k1⟩; have P1 := Lib.hid p1; have K1 := Lib.hid k1; clear p1 k1)
  go_ret
  exact ⟨rfl, P1.out, K1.out⟩
/-- A text's bytes. -/
def octs (s : ByteArray) : List Nat := s.data.toList.map (·.toNat)
theorem octs_len (s : ByteArray) : (octs s).length = s.size := by unfold octs; rw [List.length_map, Array.length_toList]; rfl
theorem octs_byt (s : ByteArray) : Byt (octs s) := by
  intro x hx
  obtain ⟨b, _, rfl⟩ := List.mem_map.1 hx
  exact b.toNat_lt
theorem strOf_octs (s : ByteArray) : strOf (octs s) = s := by
  unfold strOf octs
  rw [List.map_map, show (UInt8.ofNat ∘ fun b : UInt8 => b.toNat) = id from by funext b; simp, List.map_id]
theorem octs_bel (w : World) (e : TypeId) (s : ByteArray) : Below w.heap.size w (Lib.bytesWorld w e s) := by
  have h : Below w.heap.size w (w.drew.alloc (.cells (Lib.bytesCells w e s) e)) := ((Below.refl _ _).drew).alloc (Nat.le_refl _) _
  exact ⟨h.os, h.tape, h.output, by rw [Lib.bytesWorld_size]; omega, fun j hj => Lib.bytesWorld_at_old w e s j hj⟩
theorem octs_reads (w : World) (e : TypeId) (s : ByteArray) : Reads (Lib.bytesWorld w e s) (w.heap.size + 1) 1 (some ⟨w.heap.size, 0, none⟩) s.size ((octs s).map bv) := by
  refine ⟨by rw [List.length_map, octs_len]; omega, fun _ => ⟨_, rfl, Nat.lt_succ_self _, fun j u hu => ?_⟩⟩
  have hj : j < s.size := by
    rw [← octs_len s, ← List.length_map (f := bv)]
    exact (List.getElem?_eq_some_iff.1 hu).1
  have h5 : (⟨w.heap.size, 0, none⟩ : Addr).add j = ⟨w.heap.size, j, none⟩ := by unfold Addr.add; split <;> simp_all
  rw [h5, Lib.bytesWorld_cell w e s j hj, ← hu]
  have hj' : j < s.data.toList.length := by rw [Array.length_toList]; exact hj
  simp only [octs, List.getElem?_map, List.getElem?_eq_getElem hj', Option.map_some, bv, List.getD_eq_getElem?_getD, Option.getD_some]
set_option maxRecDepth 100000 in
set_option maxHeartbeats 1000000 in
theorem pen_text (H : Nat → Prop) (g : Nat) (xs : List Nat) (key : ByteArray) (w : World) (hp : Hid (Pen H g xs w)) (hS : Hid (Safe H g w)) (hk : key.size ≤ 60000000000000) (hl : xs.length ≤ 70000000000000) :
    Calls Tryz.prog 99 #[.pointer (some ⟨g, 0, none⟩), .string key] w (RetPen H g (xs ++ (putN key.size ++ octs key)) (.string key) w) := by
  have kc := fun W : World => Lib.run_convert_string_bytes (P := Tryz.prog) W 9 22 5 key Tryz.underlying9 Tryz.underlying22 Tryz.underlying5
  have hb := octs_bel w 5 key
  have hr := octs_reads w 5 key
  have sz : (Lib.bytesWorld w 5 key).heap.size = w.heap.size + 1 := Lib.bytesWorld_size w 5 key
  have HP : Hid (Pen (fun k => H k ∨ k = w.heap.size) g xs (Lib.bytesWorld w 5 key)) := Lib.hid ((hp.out.mono fun k hk => by rcases hk with h | h; exact .inl h; exact .inr (by omega)).later hb)
  have HS : Hid (Safe (fun k => H k ∨ k = w.heap.size) g (Lib.bytesWorld w 5 key)) := Lib.hid fun k hk => by
    have hg := hp.out.lt
    rcases hk with h | h
    · exact ⟨by have := (hS.out k h).1; omega, (hS.out k h).2⟩
    · exact ⟨by omega, by omega⟩
  have HR := Lib.hid (hr.more (B' := (Lib.bytesWorld w 5 key).heap.size) (by rw [sz]; omega))
  have HB := Lib.hid hb
  clear hb hr sz
  obtain ⟨gc, hgc⟩ : ∃ gc, grownCap w key.size 0 5 = gc := ⟨_, rfl⟩
  have kc1 := kc w
  rw [hgc] at kc1
  clear kc
  go_enter Tryz.func99, Tryz.ntmps99
  go_wp2_with (go_at_call 113; refine (pen_bytes _ g xs (some ⟨w.heap.size, 0, none⟩) key.size gc (octs key) _ HP HS HR (by omega) hl).mono ?_; rintro e w1 ⟨rfl, p1, k1⟩; have P1 := Lib.hid p1; have K1 := Lib.hid k1; have kc2 := run_conv_bytes (P := Tryz.prog) (src := 22) (dst := 9) (cap := gc) Tryz.underlying22 Tryz.underlying5 Tryz.underlying9 (k1.reads HR.out (fun _ ad e => by injection e with e; rw [← e]; exact .inr rfl)); rw [strOf_octs] at kc2; clear p1 k1 kc1)
  go_ret
  exact ⟨rfl, P1.out.mono fun k hk => .inl (.inl hk), (Keep.below HB.out).trans (K1.out.mono fun k hk => .inl hk)⟩
end Go.Proofs.YthgiafjiemiifaaGreat
end
section
namespace Go.Proofs.YthgiafjiemiifaaGreat.OctMath
theorem rdF_one (cs : List Nat) : ∀ i acc, (∀ x ∈ cs, x < 256) → (rdF cs i acc).2.2 = 0 →
    ∃ V, (rdF cs i acc).1 = acc + V * 128 ^ i ∧ (rdF cs i acc).2.1 = i + (putN V).length ∧ cs.take (putN V).length = putN V ∧ (putN V).length ≤ cs.length ∧ (0 < i → V ≠ 0) := by
  induction cs with
  | nil => intro i acc _ h; simp [rdF] at h
  | cons c cs ih =>
    intro i acc hx
    rw [rdF]
    by_cases hbad : (i = 9 ∧ 1 < c) ∨ (0 < i ∧ c = 0)
    · rw [if_pos hbad]; intro h; simp at h
    · rw [if_neg hbad]
      by_cases hc : c < 128
      · rw [if_pos hc]; intro _
        refine ⟨c, by rw [Nat.mod_eq_of_lt hc], by rw [putN_small hc]; rfl, by rw [putN_small hc]; rfl, by rw [putN_small hc]; simp, fun hi e => hbad (.inr ⟨hi, e⟩)⟩
      · rw [if_neg hc]; intro h
        obtain ⟨V, h1, h2, h3, h4, h5⟩ := ih (i + 1) (acc + c % 128 * 128 ^ i) (fun x hx' => hx x (List.mem_cons_of_mem _ hx')) h
        have hV := h5 (by omega)
        have hc2 := hx c (List.mem_cons_self ..)
        have e : putN (c % 128 + 128 * V) = c :: putN V := by
          rw [putN_big (by omega), show (c % 128 + 128 * V) % 128 + 128 = c from by omega, show (c % 128 + 128 * V) / 128 = V from by omega]
        refine ⟨c % 128 + 128 * V, ?_, ?_, ?_, ?_, fun _ => by omega⟩
        · rw [h1, Nat.pow_succ, Nat.add_mul, Nat.mul_comm (128 ^ i) 128, ← Nat.mul_assoc, Nat.mul_comm V 128, Nat.add_assoc]
        · rw [h2, e]; simp; omega
        · rw [e]; simp [h3]
        · rw [e]; simp; exact h4
theorem rdF_put (n : Nat) : ∀ i acc rest, n * 128 ^ i < 18446744073709551616 → (0 < i → n ≠ 0) → i ≤ 9 →
    rdF (putN n ++ rest) i acc = (acc + n * 128 ^ i, i + (putN n).length, 0) := by
  induction n using Nat.strongRecOn with
  | _ n ih =>
    intro i acc rest hn h0 hi
    by_cases h : n < 128
    · rw [putN_small h, List.singleton_append, rdF]
      have hbad : ¬ ((i = 9 ∧ 1 < n) ∨ (0 < i ∧ n = 0)) := by
        rintro (⟨rfl, h1⟩ | ⟨h1, h2⟩)
        · omega
        · exact h0 h1 h2
      rw [if_neg hbad, if_pos h, Nat.mod_eq_of_lt h]; rfl
    · have hi9 : i < 9 := by
        rcases Nat.lt_or_ge i 9 with h1 | h1
        · exact h1
        · obtain rfl : i = 9 := by omega
          omega
      rw [putN_big h, List.cons_append, rdF]
      have hbad : ¬ ((i = 9 ∧ 1 < n % 128 + 128) ∨ (0 < i ∧ n % 128 + 128 = 0)) := by omega
      rw [if_neg hbad, if_neg (by omega)]
      have e : (n / 128) * 128 ^ (i + 1) = (n / 128 * 128) * 128 ^ i := by rw [Nat.pow_succ, Nat.mul_comm (128 ^ i) 128, ← Nat.mul_assoc]
      have le : (n / 128 * 128) * 128 ^ i ≤ n * 128 ^ i := Nat.mul_le_mul_right _ (by omega)
      rw [ih (n / 128) (by omega) (i + 1) _ rest (by rw [e]; omega) (by omega) (by omega), e]
      have e2 : (n % 128 + 128) % 128 = n % 128 := by omega
      rw [e2]
      have e3 : acc + n % 128 * 128 ^ i + n / 128 * 128 * 128 ^ i = acc + n * 128 ^ i := by
        rw [Nat.add_assoc, ← Nat.add_mul, show n % 128 + n / 128 * 128 = n from by omega]
      rw [e3]
      simp only [List.length_cons]
      rw [show i + 1 + (putN (n / 128)).length = i + ((putN (n / 128)).length + 1) from by omega]
/-- What Number answers, where it answers: one writing. -/
theorem rdN_one (bs : List Nat) (at_ : Int) (h : ∀ x ∈ bs, x < 256) (he : (rdN bs at_).2.2 = 0) :
    ∃ k : Nat, at_ = k ∧ (rdN bs at_).2.1 = ((k + (putN (rdN bs at_).1).length : Nat) : Int) ∧ k + (putN (rdN bs at_).1).length ≤ bs.length ∧
      (bs.drop k).take (putN (rdN bs at_).1).length = putN (rdN bs at_).1 := by
  unfold rdN at he ⊢
  by_cases hb : at_ < 0 ∨ (bs.length : Int) < at_
  · rw [if_pos hb] at he; simp at he
  · rw [if_neg hb] at he ⊢
    obtain ⟨k, rfl⟩ := Int.eq_ofNat_of_zero_le (show 0 ≤ at_ by omega)
    simp only [Int.toNat_natCast] at he ⊢
    by_cases hr : (rdF (bs.drop k) 0 0).2.2 = 0
    · rw [if_pos hr]
      obtain ⟨V, h1, h2, h3, h4, _⟩ := rdF_one (bs.drop k) 0 0 (fun x hx => h x (List.mem_of_mem_drop hx)) hr
      simp only [Nat.pow_zero, Nat.mul_one, Nat.zero_add] at h1 h2
      refine ⟨k, rfl, ?_, ?_, ?_⟩
      · simp only [h1, h2]; omega
      · simp only [h1]; rw [List.length_drop] at h4; omega
      · simp only [h1]; exact h3
    · rw [if_neg hr] at he; exact absurd he hr
theorem rdN_put (pre : List Nat) (n : Nat) (rest : List Nat) (hn : n < 18446744073709551616) :
    rdN (pre ++ (putN n ++ rest)) (pre.length : Nat) = (n, ((pre.length + (putN n).length : Nat) : Int), 0) := by
  unfold rdN
  rw [if_neg (by simp; omega)]
  simp only [Int.toNat_natCast, List.drop_left]
  rw [rdF_put n 0 0 rest (by simpa using hn) (by omega) (by omega)]
  simp
theorem unz_zz (i : Int) : unz (zz i) = i := by
  unfold zz unz
  split <;> split <;> omega
/-- What Bytes answers, where it answers: one writing. -/
theorem rdB_one (bs : List Nat) (at_ most : Int) (h : ∀ x ∈ bs, x < 256) (he : (rdB bs at_ most).2.2 = 0) :
    ∃ k : Nat, at_ = k ∧ (rdB bs at_ most).2.1 = ((k + (putN (rdB bs at_ most).1.length ++ (rdB bs at_ most).1).length : Nat) : Int) ∧
      k + (putN (rdB bs at_ most).1.length ++ (rdB bs at_ most).1).length ≤ bs.length ∧
      (bs.drop k).take (putN (rdB bs at_ most).1.length ++ (rdB bs at_ most).1).length = putN (rdB bs at_ most).1.length ++ (rdB bs at_ most).1 := by
  unfold rdB at he ⊢
  simp only at he ⊢
  by_cases h1 : (rdN bs at_).2.2 ≠ 0
  · rw [if_pos h1] at he; exact absurd he h1
  · rw [if_neg h1] at he ⊢
    by_cases h2 : most < 0 ∨ most < ((rdN bs at_).1 : Int) ∨ (bs.length : Int) - (rdN bs at_).2.1 < ((rdN bs at_).1 : Int)
    · rw [if_pos h2] at he; simp at he
    · rw [if_neg h2]
      obtain ⟨k, hk, e1, e2, e3⟩ := rdN_one bs at_ h (by omega)
      obtain ⟨V, eV⟩ : ∃ V, (rdN bs at_).1 = V := ⟨_, rfl⟩
      rw [eV] at e1 e2 e3 h2 ⊢
      rw [e1] at h2 ⊢
      simp only [Int.toNat_natCast]
      have hl : ((bs.drop (k + (putN V).length)).take V).length = V := by rw [List.length_take, List.length_drop]; omega
      refine ⟨k, hk, ?_, ?_, ?_⟩
      · rw [List.length_append, hl]; omega
      · rw [List.length_append, hl]; omega
      · rw [List.length_append, hl, List.take_add, e3, List.drop_drop]
end Go.Proofs.YthgiafjiemiifaaGreat.OctMath
end
section
namespace Go.Proofs.YthgiafjiemiifaaGreat
open OctMath
set_option linter.unusedVariables false
/-- A reading: from a place, a thing and the place behind it, or nothing. -/
abbrev Rd (α : Type) := Nat → Option (α × Nat)
def Rd.pure {α : Type} (x : α) : Rd α := fun at_ => some (x, at_)
def Rd.bind {α β : Type} (r : Rd α) (f : α → Rd β) : Rd β := fun at_ => match r at_ with
  | some (x, p) => f x p
  | none => none
theorem Rd.bind_some {α β : Type} {r : Rd α} {f : α → Rd β} {at_ p : Nat} {x : α} (h : r at_ = some (x, p)) : r.bind f at_ = f x p := by unfold Rd.bind; rw [h]
theorem Rd.bind_none {α β : Type} {r : Rd α} {f : α → Rd β} {at_ : Nat} (h : r at_ = none) : r.bind f at_ = none := by unfold Rd.bind; rw [h]
def rNum (bs : List Nat) : Rd Nat := fun at_ => if (rdN bs at_).2.2 = 0 then some ((rdN bs at_).1, (rdN bs at_).2.1.toNat) else none
def rInt (bs : List Nat) : Rd Int := fun at_ => (rNum bs at_).map fun x => (unz x.1, x.2)
def rWord (bs : List Nat) : Rd Nat := fun at_ => match rNum bs at_ with
  | some (n, p) => if n < 4294967296 then some (n, p) else none
  | none => none
def rFlag (bs : List Nat) : Rd Bool := fun at_ => if at_ < bs.length ∧ bs.getD at_ 0 ≤ 1 then some (decide (0 < bs.getD at_ 0), at_ + 1) else none
def rText (bs : List Nat) : Rd (List Nat) := fun at_ => if (rdB bs at_ 1048576).2.2 = 0 then some ((rdB bs at_ 1048576).1, (rdB bs at_ 1048576).2.1.toNat) else none
/-- k things one behind the other. -/
def rTimes {α : Type} (one : Rd α) : Nat → Rd (List α)
  | 0 => Rd.pure []
  | k + 1 => (rTimes one k).bind fun l => one.bind fun x => Rd.pure (l ++ [x])
def rList {α : Type} (bs : List Nat) (one : Rd α) : Rd (List α) := (rNum bs).bind fun n p => if 1048576 < n ∨ bs.length - p < n then none else rTimes one n p
def rMem (bs : List Nat) : Rd (Int × Int) := (rInt bs).bind fun i => (rInt bs).bind fun w => Rd.pure (i, w)
def rMap (bs : List Nat) : Rd (Nat × List (Int × Int)) := (rNum bs).bind fun e => (rList bs (rMem bs)).bind fun l => Rd.pure (e, l)
def rConf (bs : List Nat) : Rd (List Int × List Int) := (rList bs (rInt bs)).bind fun v => (rList bs (rInt bs)).bind fun l => Rd.pure (v, l)
structure IdT where
  ver : Nat
  idx : Int
  ep : Nat
def rId (bs : List Nat) : Rd IdT := (rNum bs).bind fun v => (rInt bs).bind fun i => (rNum bs).bind fun e => Rd.pure ⟨v, i, e⟩
structure HdT where
  id : IdT
  k : Int
  n : Int
  size : Int
  sum : Nat
/-- What a reading that goes well has read: the bytes that the thing is put as. -/
structure Wrote {α : Type} (bs : List Nat) (r : Rd α) (put : α → List Nat) : Prop where
  rd : ∀ at_ x p, r at_ = some (x, p) → at_ ≤ bs.length → at_ ≤ p ∧ p ≤ bs.length ∧ (bs.drop at_).take (p - at_) = put x
theorem Wrote.pure {α : Type} (bs : List Nat) (x : α) : Wrote bs (Rd.pure x) (fun _ => []) := ⟨fun at_ y p h hl => by cases h; exact ⟨Nat.le_refl _, hl, by simp⟩⟩
theorem take_join (bs : List Nat) {a p q : Nat} (h1 : a ≤ p) (h2 : p ≤ q) : (bs.drop a).take (q - a) = (bs.drop a).take (p - a) ++ (bs.drop p).take (q - p) := by
  have e : q - a = (p - a) + (q - p) := by omega
  rw [e, List.take_add, List.drop_drop, show a + (p - a) = p by omega]
/-- Two readings one behind the other. -/
theorem Wrote.bind {α β : Type} {bs : List Nat} {r : Rd α} {f : α → Rd β} {put : α → List Nat} {put2 : α → β → List Nat} {put3 : β → List Nat} (h : Wrote bs r put) (hf : ∀ x, Wrote bs (f x) (put2 x)) (he : ∀ at_ x p y q, r at_ = some (x, p) → f x p = some (y, q) → put3 y = put x ++ put2 x y) : Wrote bs (r.bind f) put3 := by
  refine ⟨fun at_ y q hy hl => ?_⟩
  unfold Rd.bind at hy
  cases hr : r at_ with
  | none => rw [hr] at hy; cases hy
  | some v =>
    obtain ⟨x, p⟩ := v
    rw [hr] at hy
    obtain ⟨a1, a2, a3⟩ := h.rd at_ x p hr hl
    obtain ⟨b1, b2, b3⟩ := (hf x).rd p y q hy a2
    exact ⟨by omega, b2, by rw [take_join bs a1 b1, a3, b3, he at_ x p y q hr hy]⟩
end Go.Proofs.YthgiafjiemiifaaGreat
end
section
namespace Go.Proofs.YthgiafjiemiifaaGreat
open Go.RowKit OctMath
set_option linter.unusedVariables false
section
variable {P : Program} {l : List Oper} {md : Region.Mode} {Q : Exit → Act → World → Prop} {S0 S S0' S' : World → Prop} {s : Nat}
theorem wpAnyT_mono (h0 : ∀ w, S0' w → S0 w) (h1 : ∀ w, S' w → S w) : ∀ (fuel : Nat) (listed : Array Bool) (a : Act) (w : World), wpAnyT P md l Q S0' S' s fuel listed a w → wpAnyT P md l Q S0 S s fuel listed a w
  | 0, _, _, _, h => h
  | fuel + 1, _, _, _, h => ⟨h.1, fun i hi => wpOp_mono (fun a' w' h' => ⟨⟨h0 _ h'.1.1, fun q => h1 _ (h'.1.2 q)⟩, wpAnyT_mono h0 h1 fuel _ a' w' h'.2⟩) (h.2 i hi)⟩
end
/-- Bytes that come back. -/
def RetO (ys : List Nat) (w : World) (e : Ending) (w' : World) : Prop := ∃ A cap, e = .returned (.slice A ys.length cap) ∧ Reads w' w'.heap.size 1 A ys.length (ys.map bv) ∧ Below w.heap.size w w'
set_option maxRecDepth 100000 in
set_option maxHeartbeats 400000 in
theorem pen_writer (A : Option Addr) (n cap : Nat) (xs : List Nat) (w : World) (hr : Reads w w.heap.size 1 A n (xs.map bv)) (hm : n ≤ 140737488351232) :
    Calls Tryz.prog 49 #[.slice A n cap] w (fun e w' => ∃ g, e = .returned (.pointer (some ⟨g, 0, none⟩)) ∧ w.heap.size ≤ g ∧ Below w.heap.size w w' ∧ Pen (fun k => k < w.heap.size) g xs w') := by
  have hn : xs.length = n := by simpa using hr.1
  go_enter Tryz.func49, Tryz.ntmps49
  go_wp2_with (at_builtin
               refine wpl_append rfl (.tmp 3) (.tmp 4) _ rfl w w.heap.size 5 _ 1 1 Tryz.underlying22 Tryz.infoU8 rfl (by decide) (.slice (some ⟨w.heap.size, 0, none⟩) 0 0) 0 [] rfl ?own (w.heap.size + 1) A n cap (xs.map bv) rfl ?rd (bv_one xs) (by omega) (by decide) ?bel ?base ?_
               case own => exact World.ownsRow_lit _ #[] 0 (Nat.le_refl _) (by unfold maxLen; omega) rfl
               case rd => exact (hr.alloc (Nat.le_refl _) _).more (by simp)
               case bel => exact (Below.refl _ _).alloc (Nat.le_refl _) _
               case base => simp
               intro v1 w1 hh
               obtain ⟨PA, pn, pc, rfl⟩ : ∃ PA pn pc, v1 = .slice PA pn pc := (by obtain ⟨x, y, e, _⟩ := own_slice hh.out.1; exact ⟨_, _, _, e⟩))
  go_ret
  obtain ⟨h1, h2, h3⟩ := hh.out
  refine ⟨w1.heap.size, rfl, h3, h2.alloc h3 _, ⟨_, Blk.new _ _ _, ?_, fun e => by have := (h1.lt _ e).2; omega, fun k hk e => by have := (h1.lt _ e).1; omega⟩⟩
  have h := own_baseO h1 (Nat.zero_le _)
  rw [hn]
  simpa using h.alloc _
end Go.Proofs.YthgiafjiemiifaaGreat
end
