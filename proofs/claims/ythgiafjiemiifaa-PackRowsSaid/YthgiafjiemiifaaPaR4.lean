/-
  THE PROGRAM'S READER: lists.
-/
import Derived.Test.YthgiafjiemiifaaPaR3
namespace Go.Proofs.Ythgiafjiemiifaa
open Go.RowKit OctMath
set_option linter.unusedVariables false
def iv (x : Int) : Value := .int .i64 x
theorem Try.infoI64 : (Try.prog.info? 3).map (fun i => (i.zero, i.size, i.bytes)) = some (some (.int .i64 0), 1, 8) := by kernel_rfl
theorem rTimes_none {α : Type} {one : Rd α} {p k : Nat} (h : rTimes one k p = none) {m : Nat} (hm : k ≤ m) : rTimes one m p = none := by
  induction m with
  | zero => obtain rfl : k = 0 := by omega
            exact h
  | succ m ih =>
    by_cases e : k = m + 1
    · rw [← e]; exact h
    · show (rTimes one m).bind _ p = none
      exact Rd.bind_none (ih (by omega))
theorem rTimes_more {α : Type} {one : Rd α} {p k q q' : Nat} {l : List α} {x : α} (h : rTimes one k p = some (l, q)) (hx : one q = some (x, q')) : rTimes one (k + 1) p = some (l ++ [x], q') := by
  show (rTimes one k).bind _ p = _
  rw [Rd.bind_some h, Rd.bind_some hx]; rfl
theorem rTimes_end {α : Type} {one : Rd α} {p k q : Nat} {l : List α} (h : rTimes one k p = some (l, q)) (hx : one q = none) : rTimes one (k + 1) p = none := by
  show (rTimes one k).bind _ p = _
  rw [Rd.bind_some h, Rd.bind_none hx]
theorem rTimes_len {α : Type} {one : Rd α} {p k : Nat} : ∀ {q : Nat} {l : List α}, rTimes one k p = some (l, q) → l.length = k := by
  induction k with
  | zero => intro q l h; cases h; rfl
  | succ k ih =>
    intro q l h
    have h' : (rTimes one k).bind (fun l => one.bind fun x => Rd.pure (l ++ [x])) p = some (l, q) := h
    cases h1 : rTimes one k p with
    | none => rw [Rd.bind_none h1] at h'; cases h'
    | some v =>
      obtain ⟨l1, q1⟩ := v
      rw [Rd.bind_some h1] at h'
      cases h2 : one q1 with
      | none => rw [Rd.bind_none h2] at h'; cases h'
      | some v =>
        obtain ⟨x, q2⟩ := v
        rw [Rd.bind_some h2] at h'
        cases h'
        rw [List.length_append, ih h1]; rfl
/-- A list that grows while a page is read. -/
structure LiR (g : Nat) (A : Option Addr) (n cap : Nat) (bs : List Nat) (w1 : World) (t : TypeId) (size : Nat) (v : Value) (k : Nat) (xs : List Value) (q : Nat) (wr : World) : Prop where
  own : wr.ownsRow w1.heap.size t size v k xs
  pg : PG g A n cap bs q wr
  kp : Keep (Not g) w1 wr
theorem LiR.start {g : Nat} {A : Option Addr} {n cap : Nat} {bs : List Nat} {w1 : World} {q : Nat} (t : TypeId) (size : Nat) (h : PG g A n cap bs q w1) : LiR g A n cap bs w1 t size (.slice none 0 0) 0 [] q w1 := ⟨⟨by simp, .inl ⟨rfl, rfl⟩⟩, h, Keep.refl _ _⟩
theorem own_apart {w : World} {base size k : Nat} {t : TypeId} {v : Value} {xs : List Value} (h : w.ownsRow base t size v k xs) {g : Nat} (hg : g < base) : v.ownBlock ≠ some g := by
  rcases h.2 with ⟨rfl, -⟩ | ⟨b, c, cur, rfl, hb, -⟩
  · simp [Value.ownBlock]
  · simp only [Value.ownBlock]
    intro e
    injection e with e
    omega
theorem LiR.read {g : Nat} {A : Option Addr} {n cap : Nat} {bs : List Nat} {w1 wr w2 : World} {t : TypeId} {size : Nat} {v : Value} {k : Nat} {xs : List Value} {q q' : Nat} (h : LiR g A n cap bs w1 t size v k xs q wr) (hg : g < w1.heap.size) (hp : PG g A n cap bs q' w2) (hk : Keep (Not g) wr w2) : LiR g A n cap bs w1 t size v k xs q' w2 :=
  ⟨h.own.kept (row := some g) ⟨hk.os, hk.tape, hk.output, hk.size, fun b hb hne => hk.block b (fun e => hne (by rw [e])) hb⟩ (.inr (own_apart h.own hg)), hp, h.kp.trans hk⟩
theorem LiR.grow {g : Nat} {A : Option Addr} {n cap : Nat} {bs : List Nat} {w1 wr w2 : World} {t : TypeId} {size : Nat} {v v' : Value} {k k' : Nat} {xs xs' : List Value} {q q1 : Nat} (h : LiR g A n cap bs w1 t size v k xs q wr) (hp1 : PG g A n cap bs q1 w1) (ho : w2.ownsRow w1.heap.size t size v' k' xs') (hb : Below w1.heap.size wr w2) : LiR g A n cap bs w1 t size v' k' xs' q w2 := by
  have hk : Keep (Not g) w1 w2 := ⟨hb.os.trans h.kp.os, hb.tape.trans h.kp.tape, hb.output.trans h.kp.output, Nat.le_trans h.kp.size hb.size, fun b hne hl => (hb.block b hl).trans (h.kp.block b hne hl)⟩
  refine ⟨ho, hp1.turn hk ?_ h.pg.pl, hk⟩
  exact (hb.block g hp1.blk.lt).trans h.pg.blk
theorem wpl_li {ops : Array Oper} {rest : List Oper} {o : Oper} {a : Act} {Q : Exit → Act → World → Prop} {g : Nat} {A : Option Addr} {n cap : Nat} {bs : List Nat} {w1 wr : World} {te : TypeId} {size : Nat} {v : Value} {k : Nat} {xs : List Value} {q q1 : Nat} (hg : o.guard = none) (s x : Operand) (ts : TypeId) (z : Value) (bytes : Nat)
    (hts : Try.prog.underlying ts = some (.slice te)) (hinfo : (Try.prog.info? te).map (fun i => (i.zero, i.size, i.bytes)) = some (some z, size, bytes)) (hz : z.cells.size = size) (h0 : 0 < size) (hb0 : 0 < bytes)
    (ho : o.op = .call { callee := .builtin .append, args := #[s, x], argTypes := #[ts, ts] }) (hst : LiR g A n cap bs w1 te size v k xs q wr) (hp1 : PG g A n cap bs q1 w1) (hl : (k + 1) * bytes ≤ 140737488355328) (us : List Value) (hus : us.length = 1 * size) (hu : ∀ u ∈ us, u.oneCell' = true) (hs : a.eval s = v) (hx : a.eval x = .slice (some ⟨wr.heap.size, 0, none⟩) 1 1)
    (h : ∀ v' w', Hid (LiR g A n cap bs w1 te size v' (k + 1) (xs ++ us) q w') → wpList Try.prog ops Q rest (a.put o.dst v') w') : wpList Try.prog ops Q (o :: rest) a (wr.alloc (.cells us.toArray te)) := by
  have hsz := hst.kp.size
  have hb1 : Below w1.heap.size wr (wr.alloc (.cells us.toArray te)) := (Below.refl _ _).alloc hsz _
  have hst' : LiR g A n cap bs w1 te size v k xs q (wr.alloc (.cells us.toArray te)) := hst.grow hp1 (hst.own.alloc _) hb1
  refine wpl_append hg s x ts ho (wr.alloc (.cells us.toArray te)) w1.heap.size te z size bytes hts hinfo hz h0 v k xs hs hst'.own (wr.heap.size + 1) (some ⟨wr.heap.size, 0, none⟩) 1 1 us hx (Reads.lit wr te us size 1 hus) hu hl hb0 (Below.refl _ _) (Nat.le_trans hsz hb1.size) fun v' w' hh => h v' w' (Lib.hid (hst'.grow hp1 hh.out.1 hh.out.2.1))
/-- A list that a reading has brought: it lies behind lo. -/
structure Lst (lo size : Nat) (A : Option Addr) (c k : Nat) (xs : List Value) (w : World) : Prop where
  rd : Reads w w.heap.size size A k xs
  lo : 0 < k → ∀ ad, A = some ad → lo ≤ ad.block
  kc : k ≤ c
  cm : c ≤ maxLen
/-- A list does not lie in a block. -/
def Apart (y k : Nat) (A : Option Addr) : Prop := 0 < k → ∀ ad, A = some ad → ad.block ≠ y
theorem Lst.apart_lo {lo size : Nat} {A : Option Addr} {c k : Nat} {xs : List Value} {w : World} (h : Lst lo size A c k xs w) {y : Nat} (hy : y < lo) : Apart y k A := fun h0 ad e => by have := h.lo h0 ad e; omega
theorem Lst.apart_hi {lo size : Nat} {A : Option Addr} {c k : Nat} {xs : List Value} {w : World} (h : Lst lo size A c k xs w) {y : Nat} (hy : w.heap.size ≤ y) : Apart y k A := fun h0 ad e => by
  obtain ⟨ad', e', hb, -⟩ := h.rd.2 h0
  rw [e] at e'
  obtain rfl := Option.some.inj e'
  omega
theorem Lst.mono {lo lo' size : Nat} {A : Option Addr} {c k : Nat} {xs : List Value} {w : World} (h : Lst lo size A c k xs w) (hl : lo' ≤ lo) : Lst lo' size A c k xs w := ⟨h.rd, fun h0 ad e => Nat.le_trans hl (h.lo h0 ad e), h.kc, h.cm⟩
theorem Lst.keep {lo size : Nat} {A : Option Addr} {c k : Nat} {xs : List Value} {w w' : World} (h : Lst lo size A c k xs w) {g : Nat} (hk : Keep (Not g) w w') (hg : g < lo) : Lst lo size A c k xs w' := ⟨hk.reads h.rd (fun h0 => h.apart_lo hg h0), h.lo, h.kc, h.cm⟩
theorem Lst.alloc {lo size : Nat} {A : Option Addr} {c k : Nat} {xs : List Value} {w : World} (h : Lst lo size A c k xs w) (o : Obj) : Lst lo size A c k xs (w.alloc o) := ⟨h.rd.later ((Below.refl _ _).alloc (Nat.le_refl _) o), h.lo, h.kc, h.cm⟩
theorem Lst.only {lo size : Nat} {A : Option Addr} {c k : Nat} {xs : List Value} {w w' : World} (h : Lst lo size A c k xs w) {y : Nat} (ho : Only y w w') (ha : Apart y k A) : Lst lo size A c k xs w' := by
  have hk : Keep (fun b => b ≠ y) w w' := Keep.only ho (fun h => h rfl)
  exact ⟨hk.reads h.rd ha, h.lo, h.kc, h.cm⟩
theorem LiR.list {g : Nat} {A : Option Addr} {n cap : Nat} {bs : List Nat} {w1 wr : World} {t : TypeId} {size : Nat} {v : Value} {k : Nat} {xs : List Value} {q : Nat} (h : LiR g A n cap bs w1 t size v k xs q wr) {lo : Nat} (hl : lo ≤ w1.heap.size) : ∃ A1 c1, v = .slice A1 k c1 ∧ Lst lo size A1 c1 k xs wr := by
  obtain ⟨A1, c1, rfl, h1, h2⟩ := own_slice h.own
  refine ⟨A1, c1, rfl, Reads.of_own h.own, fun hk ad e => ?_, h1, h2⟩
  rcases h.own.2 with ⟨e', h0⟩ | ⟨b, c, cur, e', hb, -⟩
  · omega
  · injection e' with e' _ _
    rw [e] at e'
    obtain rfl := Option.some.inj e'
    exact Nat.le_trans hl hb
def vInts (lo : Nat) (xs : List Int) (w : World) (v : Value) : Prop := ∃ A c, v = .slice A xs.length c ∧ Lst lo 1 A c xs.length (xs.map iv) w ∧ (∀ x ∈ xs, -9223372036854775808 ≤ x ∧ x ≤ 9223372036854775807) ∧ xs.length ≤ 1048576
end Go.Proofs.Ythgiafjiemiifaa
