/-
  THE REFERENCE'S P, READING OR WRITING: what its steps do, told once for both; THE PROGRAM'S READER: lists of numbers. (joined out of PaQ1, PaR5 by shake.py)
-/
import Derived.Test.YthgiafjiemiifaaGreatPbk05
import Derived.Test.YthgiafjiemiifaaGreatPbk07
section
namespace Go.Proofs.YthgiafjiemiifaaGreat
open Go.RowKit OctMath
set_option linter.unusedVariables false
/-- What P makes of its state and of what it is handed. -/
structure Md (σ : Type) where
  g : Nat
  write : Bool
  bad : σ → Bool
  fit : σ → Nat → Prop
  St : σ → World → Prop
  dep : World → Nat → Prop
  wr : World → Nat → Prop
  u64 : σ → Nat → σ × Nat
  u32 : σ → Nat → σ × Nat
  int : σ → Int → σ × Int
  flag : σ → Bool → σ × Bool
  text : σ → List Nat → σ × List Nat
  len : σ → Nat → σ × Nat
variable {σ : Type}
/-- From one world to a later one P has stepped. -/
structure Stp (M : Md σ) (w w' : World) : Prop where
  os : w'.os = w.os
  tape : w'.tape = w.tape
  output : w'.output = w.output
  size : w.heap.size ≤ w'.heap.size
  block : ∀ k, k < w.heap.size → ¬ M.wr w k → w'.heap[k]? = w.heap[k]?
  dep : ∀ k, k < w.heap.size → M.dep w' k → M.dep w k
  wr : ∀ k, k < w.heap.size → M.wr w' k → M.wr w k
theorem Stp.refl (M : Md σ) (w : World) : Stp M w w := ⟨rfl, rfl, rfl, Nat.le_refl _, fun _ _ _ => rfl, fun _ _ h => h, fun _ _ h => h⟩
theorem Stp.trans {M : Md σ} {w w' w'' : World} (h : Stp M w w') (k : Stp M w' w'') : Stp M w w'' :=
  ⟨k.os.trans h.os, k.tape.trans h.tape, k.output.trans h.output, Nat.le_trans h.size k.size, fun i hi hn => (k.block i (Nat.lt_of_lt_of_le hi h.size) (fun e => hn (h.wr i hi e))).trans (h.block i hi hn),
    fun i hi e => h.dep i hi (k.dep i (Nat.lt_of_lt_of_le hi h.size) e), fun i hi e => h.wr i hi (k.wr i (Nat.lt_of_lt_of_le hi h.size) e)⟩
/-- A block that P neither reads nor writes. -/
structure Free (M : Md σ) (k : Nat) (w : World) : Prop where
  lt : k < w.heap.size
  dep : ¬ M.dep w k
  wr : ¬ M.wr w k
theorem Free.step {M : Md σ} {k : Nat} {w w' : World} (h : Free M k w) (s : Stp M w w') : Free M k w' := ⟨Nat.lt_of_lt_of_le h.lt s.size, fun e => h.dep (s.dep k h.lt e), fun e => h.wr (s.wr k h.lt e)⟩
/-- What a step of P does. -/
def RetP (M : Md σ) (s' : σ) (v : Value) (w : World) (e : Ending) (w' : World) : Prop := e = .returned v ∧ M.St s' w' ∧ Stp M w w'
def Dq (M : Md σ) (w w' : World) : Prop := (∀ k, M.dep w' k ↔ M.dep w k) ∧ ∀ k, M.wr w' k ↔ M.wr w k
structure MdOk (M : Md σ) : Prop where
  gwr : ∀ {s : σ} {w : World}, M.St s w → M.wr w M.g
  glt : ∀ {s : σ} {w : World}, M.St s w → M.g < w.heap.size
  cwrite : ∀ {s : σ} {w : World}, M.St s w → w.cell? ⟨M.g, 2, none⟩ = some (.bool M.write)
  cbad : ∀ {s : σ} {w : World}, M.St s w → w.cell? ⟨M.g, 3, none⟩ = some (.bool (M.bad s))
  grown : ∀ {s : σ} {w w' : World} {row : Option Nat}, M.St s w → w.grownBy w' row → (∀ k, row = some k → Free M k w) → M.St s w' ∧ Dq M w w'
  fresh : ∀ {s : σ} {w : World}, M.St s w → ∀ k, M.dep w k ∨ M.wr w k → k < w.heap.size
  mono : ∀ {s : σ} {a b : Nat}, M.fit s a → b ≤ a → M.fit s b
  f_u64 : ∀ {s : σ} {a x : Nat}, M.fit s (a + 10) → x < 18446744073709551616 → M.fit (M.u64 s x).1 a
  f_u32 : ∀ {s : σ} {a x : Nat}, M.fit s (a + 10) → x < 4294967296 → M.fit (M.u32 s x).1 a
  f_int : ∀ {s : σ} {a : Nat} {x : Int}, M.fit s (a + 10) → I64 x → M.fit (M.int s x).1 a
  f_flag : ∀ {s : σ} {a : Nat} {x : Bool}, M.fit s (a + 10) → M.fit (M.flag s x).1 a
  f_text : ∀ {s : σ} {a : Nat} {x : List Nat}, M.fit s (a + 1048586) → x.length ≤ 1048576 → M.fit (M.text s x).1 a
  f_len : ∀ {s : σ} {a x : Nat}, M.fit s (a + 10) → x < 9223372036854775808 → M.fit (M.len s x).1 a
  r_u64 : ∀ {s : σ} {x : Nat}, x < 18446744073709551616 → (M.u64 s x).2 < 18446744073709551616
  r_u32 : ∀ {s : σ} {x : Nat}, x < 4294967296 → (M.u32 s x).2 < 4294967296
  r_int : ∀ {s : σ} {x : Int}, I64 x → I64 (M.int s x).2
  r_text : ∀ {s : σ} {x : List Nat}, ((∀ y ∈ x, y < 256) ∧ x.length ≤ 1048576) → ((∀ y ∈ (M.text s x).2, y < 256) ∧ (M.text s x).2.length ≤ 1048576)
  r_len : ∀ {s : σ} {x : Nat}, x ≤ 1048576 → (M.len s x).2 ≤ 1048576
  wlen : M.write = true → ∀ (s : σ) (x : Nat), (M.len s x).2 = x
  c_u64 : ∀ (s : σ) (x : Nat) (w : World), Hid (M.St s w) → x < 18446744073709551616 → M.fit s 10 → Calls Tryz.prog 45 #[.pointer (some ⟨M.g, 0, none⟩), .int .u64 (x : Int)] w (RetP M (M.u64 s x).1 (.int .u64 ((M.u64 s x).2 : Int)) w)
  c_u32 : ∀ (s : σ) (x : Nat) (w : World), Hid (M.St s w) → x < 4294967296 → M.fit s 10 → Calls Tryz.prog 100 #[.pointer (some ⟨M.g, 0, none⟩), .int .u32 (x : Int)] w (RetP M (M.u32 s x).1 (.int .u32 ((M.u32 s x).2 : Int)) w)
  c_int : ∀ (s : σ) (x : Int) (w : World), Hid (M.St s w) → I64 x → M.fit s 10 → Calls Tryz.prog 46 #[.pointer (some ⟨M.g, 0, none⟩), .int .i64 x] w (RetP M (M.int s x).1 (.int .i64 (M.int s x).2) w)
  c_flag : ∀ (s : σ) (x : Bool) (w : World), Hid (M.St s w) → M.fit s 10 → Calls Tryz.prog 101 #[.pointer (some ⟨M.g, 0, none⟩), .bool x] w (RetP M (M.flag s x).1 (.bool (M.flag s x).2) w)
  c_text : ∀ (s : σ) (x : List Nat) (w : World), Hid (M.St s w) → ((∀ y ∈ x, y < 256) ∧ x.length ≤ 1048576) → M.fit s 1048586 → Calls Tryz.prog 99 #[.pointer (some ⟨M.g, 0, none⟩), .string (strOf x)] w (RetP M (M.text s x).1 (.string (strOf (M.text s x).2)) w)
  c_len : ∀ (s : σ) (x : Nat) (w : World), Hid (M.St s w) → x < 9223372036854775808 → M.fit s 10 → Calls Tryz.prog 105 #[.pointer (some ⟨M.g, 0, none⟩), .int .i64 (x : Int)] w (RetP M (M.len s x).1 (.int .i64 ((M.len s x).2 : Int)) w)
/-- A walk that began at w0: P's state, and what has turned. -/
structure Wk (M : Md σ) (w0 : World) (s : σ) (w : World) : Prop where
  st : M.St s w
  stp : Stp M w0 w
theorem Wk.start {M : Md σ} {s : σ} {w : World} (h : M.St s w) : Wk M w s w := ⟨h, Stp.refl M w⟩
theorem Wk.call {M : Md σ} {w0 w w' : World} {s s' : σ} (h : Wk M w0 s w) (h1 : M.St s' w') (h2 : Stp M w w') : Wk M w0 s' w' := ⟨h1, h.stp.trans h2⟩
theorem Wk.grown {M : Md σ} (hM : MdOk M) {w0 w w' : World} {s : σ} {row : Option Nat} (h : Wk M w0 s w) (hg : w.grownBy w' row) (hr : ∀ k, row = some k → Free M k w ∧ w0.heap.size ≤ k) : Wk M w0 s w' := by
  obtain ⟨a, b, c⟩ := hM.grown h.st hg (fun k e => (hr k e).1)
  exact ⟨a, ⟨hg.os.trans h.stp.os, hg.tape.trans h.stp.tape, hg.output.trans h.stp.output, Nat.le_trans h.stp.size hg.size, fun k hk hn => (hg.block k (Nat.lt_of_lt_of_le hk h.stp.size) (fun e => by have := (hr k e.symm).2; omega)).trans (h.stp.block k hk hn),
    fun k hk e => h.stp.dep k hk ((b k).1 e), fun k hk e => h.stp.wr k hk ((c k).1 e)⟩⟩
theorem below_grown {w w' : World} (h : Below w.heap.size w w') : w.grownBy w' none := ⟨h.os, h.tape, h.output, h.size, fun k hk _ => h.block k hk⟩
theorem Wk.alloc {M : Md σ} (hM : MdOk M) {w0 w : World} {s : σ} (h : Wk M w0 s w) (o : Obj) : Wk M w0 s (w.alloc o) := h.grown hM (row := none) (below_grown ((Below.refl _ _).alloc (Nat.le_refl _) o)) (fun k e => by cases e)
theorem Wk.later {M : Md σ} (hM : MdOk M) {w0 w w' : World} {s : σ} (h : Wk M w0 s w) (hb : Below w.heap.size w w') : Wk M w0 s w' := h.grown hM (row := none) (below_grown hb) (fun k e => by cases e)
theorem Free.grown {M : Md σ} (hM : MdOk M) {w w' : World} {s : σ} {row : Option Nat} {k : Nat} (h : Free M k w) (hs : M.St s w) (hg : w.grownBy w' row) (hr : ∀ k, row = some k → Free M k w) : Free M k w' := by
  obtain ⟨a, b, c⟩ := hM.grown hs hg hr
  exact ⟨Nat.lt_of_lt_of_le h.lt hg.size, fun e => h.dep ((b k).1 e), fun e => h.wr ((c k).1 e)⟩
/-- A block of one's own. -/
structure Bk (M : Md σ) (w0 : World) (b : Nat) (t : TypeId) (cs : Array Value) (w : World) : Prop where
  blk : Blk w b t cs
  free : Free M b w
  lo : w0.heap.size ≤ b
theorem Bk.call {M : Md σ} {w0 w w' : World} {b : Nat} {t : TypeId} {cs : Array Value} (h : Bk M w0 b t cs w) (s : Stp M w w') : Bk M w0 b t cs w' := ⟨(s.block b h.free.lt h.free.wr).trans h.blk, h.free.step s, h.lo⟩
theorem Bk.grown {M : Md σ} (hM : MdOk M) {w0 w w' : World} {s : σ} {b : Nat} {t : TypeId} {cs : Array Value} {row : Option Nat} (h : Bk M w0 b t cs w) (hs : M.St s w) (hg : w.grownBy w' row) (hr : ∀ k, row = some k → Free M k w) (hne : row ≠ some b) : Bk M w0 b t cs w' :=
  ⟨(hg.block b h.free.lt (fun e => hne e.symm)).trans h.blk, h.free.grown hM hs hg hr, h.lo⟩
theorem Bk.alloc {M : Md σ} (hM : MdOk M) {w0 w : World} {s : σ} {b : Nat} {t : TypeId} {cs : Array Value} (h : Bk M w0 b t cs w) (hs : M.St s w) (o : Obj) : Bk M w0 b t cs (w.alloc o) := h.grown hM hs (row := none) (below_grown ((Below.refl _ _).alloc (Nat.le_refl _) o)) (fun k e => by cases e) (by simp)
theorem Bk.only {M : Md σ} (hM : MdOk M) {w0 w w' : World} {s : σ} {b k : Nat} {t : TypeId} {cs : Array Value} (h : Bk M w0 b t cs w) (hs : M.St s w) (ho : Only k w w') (hk : Free M k w) (hne : b ≠ k) : Bk M w0 b t cs w' :=
  h.grown hM hs ho.grown (fun j e => by injection e with e; rwa [← e]) (fun e => hne (by injection e with e; exact e.symm))
theorem Bk.turn {M : Md σ} (hM : MdOk M) {w0 w w' : World} {s : σ} {b : Nat} {t : TypeId} {cs cs' : Array Value} (h : Bk M w0 b t cs w) (hs : M.St s w) (ho : Only b w w') (hB : Blk w' b t cs') : Bk M w0 b t cs' w' :=
  ⟨hB, h.free.grown hM hs ho.grown (fun j e => by injection e with e; rw [← e]; exact h.free), h.lo⟩
theorem Wk.only {M : Md σ} (hM : MdOk M) {w0 w w' : World} {s : σ} {b : Nat} {t : TypeId} {cs : Array Value} (h : Wk M w0 s w) (hb : Bk M w0 b t cs w) (ho : Only b w w') : Wk M w0 s w' := h.grown hM ho.grown (fun k e => by injection e with e; rw [← e]; exact ⟨hb.free, hb.lo⟩)
theorem Bk.new {M : Md σ} (hM : MdOk M) {w0 w : World} {s : σ} (h : Wk M w0 s w) (cs : Array Value) (t : TypeId) : Bk M w0 w.heap.size t cs (w.alloc (.cells cs t)) := by
  have hg : w.grownBy (w.alloc (.cells cs t)) none := below_grown ((Below.refl _ _).alloc (Nat.le_refl _) _)
  obtain ⟨a, b, c⟩ := hM.grown h.st hg (fun k e => by cases e)
  exact ⟨Blk.new w _ _, ⟨by simp, fun e => Nat.lt_irrefl _ (hM.fresh h.st _ (.inl ((b _).1 e))), fun e => Nat.lt_irrefl _ (hM.fresh h.st _ (.inr ((c _).1 e)))⟩, h.stp.size⟩
/-- A list that P neither reads nor writes. -/
structure Ls (M : Md σ) (size : Nat) (A : Option Addr) (n : Nat) (xs : List Value) (w : World) : Prop where
  rd : Reads w w.heap.size size A n xs
  free : 0 < n → ∀ ad, A = some ad → Free M ad.block w
theorem Ls.call {M : Md σ} {size n : Nat} {A : Option Addr} {xs : List Value} {w w' : World} (h : Ls M size A n xs w) (s : Stp M w w') : Ls M size A n xs w' := by
  refine ⟨⟨h.rd.1, fun hn => ?_⟩, fun hn ad e => (h.free hn ad e).step s⟩
  obtain ⟨ad, e, hb, hc⟩ := h.rd.2 hn
  have hf := h.free hn ad e
  refine ⟨ad, e, Nat.lt_of_lt_of_le hb s.size, fun j u hu => ?_⟩
  rw [← hc j u hu]
  refine World.cell?_of_block ?_
  rw [block_of_add]
  exact s.block _ hf.lt hf.wr
theorem Ls.grown {M : Md σ} (hM : MdOk M) {s : σ} {size n : Nat} {A : Option Addr} {xs : List Value} {w w' : World} {row : Option Nat} (h : Ls M size A n xs w) (hs : M.St s w) (hg : w.grownBy w' row) (hr : ∀ k, row = some k → Free M k w) (hne : 0 < n → ∀ ad, A = some ad → row ≠ some ad.block) : Ls M size A n xs w' := by
  refine ⟨⟨h.rd.1, fun hn => ?_⟩, fun hn ad e => (h.free hn ad e).grown hM hs hg hr⟩
  obtain ⟨ad, e, hb, hc⟩ := h.rd.2 hn
  refine ⟨ad, e, Nat.lt_of_lt_of_le hb hg.size, fun j u hu => ?_⟩
  rw [← hc j u hu]
  refine World.cell?_of_block ?_
  rw [block_of_add]
  exact hg.block _ hb (fun e' => hne hn ad e e'.symm)
theorem Ls.alloc {M : Md σ} (hM : MdOk M) {s : σ} {size n : Nat} {A : Option Addr} {xs : List Value} {w : World} (h : Ls M size A n xs w) (hs : M.St s w) (o : Obj) : Ls M size A n xs (w.alloc o) := h.grown hM hs (row := none) (below_grown ((Below.refl _ _).alloc (Nat.le_refl _) o)) (fun k e => by cases e) (fun _ _ _ => by simp)
theorem Ls.later {M : Md σ} (hM : MdOk M) {s : σ} {size n : Nat} {A : Option Addr} {xs : List Value} {w w' : World} (h : Ls M size A n xs w) (hs : M.St s w) (hb : Below w.heap.size w w') : Ls M size A n xs w' := h.grown hM hs (row := none) (below_grown hb) (fun k e => by cases e) (fun _ _ _ => by simp)
theorem Ls.only {M : Md σ} (hM : MdOk M) {s : σ} {size n b : Nat} {A : Option Addr} {xs : List Value} {w w' : World} (h : Ls M size A n xs w) (hs : M.St s w) (ho : Only b w w') (hf : Free M b w) (ha : Apart b n A) : Ls M size A n xs w' :=
  h.grown hM hs ho.grown (fun j e => by injection e with e; rwa [← e]) (fun hn ad e e' => ha hn ad e (by injection e' with e'; exact e'.symm))
theorem Ls.apart {M : Md σ} {size n b : Nat} {A : Option Addr} {xs : List Value} {w : World} (h : Ls M size A n xs w) (hb : w.heap.size ≤ b) : Apart b n A := fun hn ad e => by have := (h.free hn ad e).lt; omega
/-- Every one of some things, one behind the other, until P goes bad: the last state, what came out. -/
def itF {α β : Type} (M : Md σ) (one : σ → α → σ × β) (arg : Nat → α) : Nat → σ → σ × List β
  | 0, s => (s, [])
  | k + 1, s => if M.bad (itF M one arg k s).1 then itF M one arg k s else ((one (itF M one arg k s).1 (arg k)).1, (itF M one arg k s).2 ++ [(one (itF M one arg k s).1 (arg k)).2])
def intsF (M : Md σ) (s : σ) (l : List Int) : σ × List Int := itF M M.int (fun i => l.getD i 0) (M.len s l.length).2 (M.len s l.length).1
/-- Two steps one behind the other. -/
def bnd {α β : Type} (r : σ × α) (f : σ → α → σ × β) : σ × β := f r.1 r.2
theorem bnd_mk {α β : Type} (s : σ) (x : α) (f : σ → α → σ × β) : bnd (s, x) f = f s x := rfl
def idF (M : Md σ) (s : σ) (x : IdT) : σ × IdT := bnd (M.u64 s x.ver) fun s1 y1 => bnd (M.int s1 x.idx) fun s2 y2 => bnd (M.u64 s2 x.ep) fun s3 y3 => (s3, ⟨y1, y2, y3⟩)
def confF (M : Md σ) (s : σ) (x : List Int × List Int) : σ × (List Int × List Int) := bnd (intsF M s x.1) fun s1 y1 => bnd (intsF M s1 x.2) fun s2 y2 => (s2, (y1, y2))
def memF (M : Md σ) (s : σ) (x : Int × Int) : σ × (Int × Int) := bnd (M.int s x.1) fun s1 y1 => bnd (M.int s1 x.2) fun s2 y2 => (s2, (y1, y2))
def memsF (M : Md σ) (s : σ) (l : List (Int × Int)) : σ × List (Int × Int) := itF M (memF M) (fun i => l.getD i (0, 0)) (M.len s l.length).2 (M.len s l.length).1
def mapF (M : Md σ) (s : σ) (x : Nat × List (Int × Int)) : σ × (Nat × List (Int × Int)) := bnd (M.u64 s x.1) fun s1 y1 => bnd (memsF M s1 x.2) fun s2 y2 => (s2, (y1, y2))
def cmdF (M : Md σ) (s : σ) (x : CmdT) : σ × CmdT := bnd (M.int s x.kind) fun s1 y1 => bnd (M.u64 s1 x.client) fun s2 y2 => bnd (M.u64 s2 x.seq) fun s3 y3 => bnd (M.text s3 x.key) fun s4 y4 => bnd (M.int s4 x.size) fun s5 y5 => bnd (M.u32 s5 x.sum) fun s6 y6 => bnd (M.u64 s6 x.version) fun s7 y7 => bnd (M.u64 s7 x.epoch) fun s8 y8 => bnd (M.int s8 x.group) fun s9 y9 => bnd (M.int s9 x.node) fun s10 y10 => bnd (M.flag s10 x.up) fun s11 y11 => bnd (idF M s11 x.id) fun s12 y12 => bnd (mapF M s12 (x.mep, x.mem)) fun s13 y13 => (s13, ⟨y1, y2, y3, y4, y5, y6, y7, y8, y9, y10, y11, y12, y13.1, y13.2⟩)
def entF (M : Md σ) (s : σ) (x : EntT) : σ × EntT := bnd (M.u64 s x.index) fun s1 y1 => bnd (M.u64 s1 x.term) fun s2 y2 => bnd (M.int s2 x.kind) fun s3 y3 => bnd (cmdF M s3 x.cmd) fun s4 y4 => bnd (confF M s4 (x.voters, x.learners)) fun s5 y5 => (s5, ⟨y1, y2, y3, y4, y5.1, y5.2⟩)
end Go.Proofs.YthgiafjiemiifaaGreat
end
section
namespace Go.Proofs.YthgiafjiemiifaaGreat
open Go.RowKit OctMath
set_option linter.unusedVariables false
theorem rNum_le {bs : List Nat} (hb : Byt bs) {p q x : Nat} (h : rNum bs p = some (x, q)) : q ≤ bs.length := by
  unfold rNum at h
  obtain ⟨-, h1, h2⟩ := rdN_lt bs p hb
  split at h
  · simp only [Option.some.injEq, Prod.mk.injEq] at h
    rw [← h.2]; omega
  · cases h
theorem rInt_rng {bs : List Nat} (hb : Byt bs) {p q : Nat} {x : Int} (h : rInt bs p = some (x, q)) : -9223372036854775808 ≤ x ∧ x ≤ 9223372036854775807 := by
  unfold rInt rNum at h
  obtain ⟨h1, -, -⟩ := rdN_lt bs p hb
  split at h
  · simp only [Option.map_some, Option.some.injEq, Prod.mk.injEq] at h
    rw [← h.1]; exact unz_rng h1
  · cases h
set_option maxRecDepth 100000 in
set_option maxHeartbeats 2000000 in
theorem pg_ints (g : Nat) (A : Option Addr) (n cap : Nat) (bs : List Nat) (p : Nat) (w : World) (hP : Hid (PG g A n cap bs p w)) :
    Calls Tryz.prog 55 #[.pointer (some ⟨g, 0, none⟩), .func (.func 43) #[.pointer (some ⟨g, 0, none⟩)] #[]] w (RetR (rList bs (rInt bs) p) (vInts w.heap.size) g A n cap bs w) := by
  have HR := Lib.hid (show rList bs (rInt bs) p = (rNum bs).bind (fun n p => if 1048576 < n ∨ bs.length - p < n then none else rTimes (rInt bs) n p) p from rfl)
  have HC := Lib.hid (pg_number g A n cap bs p w hP)
  cases hq : rNum bs p with
  | none =>
    rw [hq] at HC
    rw [Rd.bind_none hq] at HR
    go_enter Tryz.func55, Tryz.ntmps55
    go_wp2_with (go_at_call 42; refine HC.out.mono ?_; rintro e w1 ⟨rfl, hk⟩; have HK := Lib.hid hk; clear hk)
    refine ⟨rfl, ?_⟩
    rw [HR.out]
    exact RetR.none_ HK.out
  | some x =>
    obtain ⟨m, p0⟩ := x
    rw [hq] at HC
    rw [Rd.bind_some hq] at HR
    have hlen := hP.out.len
    have hn9 := hP.out.reach
    rw [hlen] at HR
    by_cases hm : 1048576 < m
    · rw [if_pos (.inl hm)] at HR
      have d1 : decide ((m : Int) > 1048576) = true := decide_eq_true (by omega)
      have d2 : decide (1048576 < m) = true := decide_eq_true hm
      clear hlen hn9 hm
      go_enter Tryz.func55, Tryz.ntmps55
      go_wp2_with (go_at_call 42; refine HC.out.mono ?_; rintro e w1 ⟨v, rfl, ⟨rfl, hx⟩, hp1, hk⟩; have HP1 := Lib.hid hp1; have HK := Lib.hid hk; have c0 := hp1.blk.cell 0; have c1 := hp1.blk.cell 1; clear hp1 hk)
      go_region
      go_wp2
      refine ⟨rfl, ?_⟩
      rw [HR.out]
      exact RetR.none_ (HK.out.trans keep_drew)
    · have d1 : decide ((m : Int) > 1048576) = false := decide_eq_false (by omega)
      have d2 : decide (1048576 < m) = false := decide_eq_false hm
      have hm1 : m ≤ 1048576 := by omega
      clear hm
      have hp0 := rNum_le hP.out.byt hq
      rw [hlen] at hp0
      obtain ⟨d, ed⟩ : ∃ d, n - p0 = d := ⟨_, rfl⟩
      have e1 : IntKind.i64.wrap ((n : Int) - (p0 : Int)) = (d : Int) := by rw [IntKind.wrap_i64]; omega
      have e2 : IntKind.u64.wrap (d : Int) = (d : Int) := by rw [IntKind.wrap_u64]; omega
      have e3 : IntKind.u64.wrap ((n : Int) - (p0 : Int)) = (d : Int) := by rw [IntKind.wrap_u64]; omega
      rw [ed] at HR
      have hdn : d ≤ n := by omega
      clear ed hp0 hlen hn9
      by_cases hm2 : d < m
      · rw [if_pos (.inr hm2)] at HR
        have d3 : decide ((m : Int) > (d : Int)) = true := decide_eq_true (by omega)
        have d4 : decide (d < m) = true := decide_eq_true hm2
        clear hm1 hm2 hdn
        go_enter Tryz.func55, Tryz.ntmps55
        go_wp2_with (go_at_call 42; refine HC.out.mono ?_; rintro e w1 ⟨v, rfl, ⟨rfl, hx⟩, hp1, hk⟩; have HP1 := Lib.hid hp1; have HK := Lib.hid hk; have c0 := hp1.blk.cell 0; have c1 := hp1.blk.cell 1; clear hp1 hk)
        go_region
        go_wp2
        refine ⟨rfl, ?_⟩
        rw [HR.out]
        exact RetR.none_ (HK.out.trans keep_drew)
      · rw [if_neg (by omega)] at HR
        have d3 : decide ((m : Int) > (d : Int)) = false := decide_eq_false (by omega)
        have d4 : decide (d < m) = false := decide_eq_false hm2
        clear hdn hm2
        go_enter Tryz.func55, Tryz.ntmps55
        go_wp2_with (go_at_call 42; refine HC.out.mono ?_; rintro e w1 ⟨v, rfl, ⟨rfl, hx⟩, hp1, hk⟩; have HP1 := Lib.hid hp1; have HK := Lib.hid hk; have c0 := hp1.blk.cell 0; have c1 := hp1.blk.cell 1; clear hp1 hk)
        go_region
        clear c0 c1 e1 e2 e3 d3 d4
        go_wp2
        obtain ⟨w2, ew2⟩ : ∃ w2, w1.drew = w2 := ⟨_, rfl⟩
        have hp2 := HP1.out.drew
        have hk2 : Keep (Not g) w w1.drew := HK.out.trans keep_drew
        rw [ew2] at hp2 hk2 ⊢
        have HP2 := Lib.hid hp2
        have HK2 := Lib.hid hk2
        clear ew2 HP1 HK hp2 hk2 HC
        have HB := Lib.hid hP.out.byt
        have hg2 := Lib.hid HP2.out.blk.lt
        have hst0 := Lib.hid (LiR.start 3 1 HP2.out)
        clear hP
        go_loopw [6, 29] (fun vo vi wr => ∃ (k q : Nat) (xs : List Int), k ≤ m ∧ vi = .int .u64 k ∧ Hid (rTimes (rInt bs) k p0 = some (xs, q)) ∧ Hid (∀ x ∈ xs, -9223372036854775808 ≤ x ∧ x ≤ 9223372036854775807) ∧ Hid (LiR g A n cap bs w2 3 1 vo k (xs.map iv) q wr)) (fun _ vi _ => m - (intOf vi).toNat)
        case atStart => exact ⟨0, p0, [], by omega, rfl, Lib.hid rfl, Lib.hid (fun x hx => by cases hx), hst0⟩
        case round =>
          obtain ⟨k, q, xs, hk, rfl, hT, hX, hst⟩ := hrel
          clear hst0
          by_cases hlt : k < m
          · have d3 : decide (k < m) = true := decide_eq_true hlt
            have HI := Lib.hid (pg_int g A n cap bs q wr (Lib.hid hst.out.pg))
            cases hx1 : rInt bs q with
            | none =>
              rw [hx1] at HI
              have HN := Lib.hid (rTimes_none (rTimes_end hT.out hx1) (m := m) (by omega))
              go_wp2_with (go_at_call 43; refine HI.out.mono ?_; rintro e w3 ⟨rfl, hk3⟩; have HK3 := Lib.hid hk3; clear hk3)
              refine ⟨rfl, ?_⟩
              rw [HR.out, HN.out]
              exact RetR.none_ ((HK2.out.trans hst.out.kp).trans HK3.out)
            | some y =>
              obtain ⟨x, q'⟩ := y
              rw [hx1] at HI
              have HT1 := Lib.hid (rTimes_more hT.out hx1)
              have HX1 := Lib.hid (rInt_rng HB.out hx1)
              go_wp2_with (first
                | (go_at_call 43; refine HI.out.mono ?_; rintro e w3 ⟨v, rfl, ⟨rfl, -⟩, hp3, hk3⟩; have hst3 := Lib.hid (hst.out.read hg2.out hp3 hk3); clear hp3 hk3)
                | (at_builtin
                   refine wpl_li rfl _ _ 34 _ 8 Tryz.underlying34 Tryz.infoI64 rfl (by decide) (by decide) rfl hst3.out HP2.out (by omega) [.int .i64 x] rfl (by intro u hu; rw [List.mem_singleton.1 hu]; rfl) rfl rfl ?_
                   intro v4 w4 hst4))
              refine ⟨⟨k + 1, q', xs ++ [x], by omega, by go_num, HT1, Lib.hid (fun y hy => ?_), ?_⟩, by simp [intOf]; omega⟩
              · rcases List.mem_append.1 hy with h | h
                · exact hX.out y h
                · rw [List.mem_singleton.1 h]; exact HX1.out
              · rw [List.map_append]; exact hst4
          · obtain rfl : k = m := by omega
            go_wp2
            go_ret
            rw [HR.out, hT.out]
            have hl := rTimes_len hT.out
            subst hl
            obtain ⟨A1, k1, rfl, hl1⟩ := hst.out.list HK2.out.size
            exact RetR.some_ ⟨A1, k1, rfl, hl1, hX.out, hm1⟩ hst.out.pg (HK2.out.trans hst.out.kp)
end Go.Proofs.YthgiafjiemiifaaGreat
end
