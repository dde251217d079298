/-
  THE REFERENCE'S P, READING OR WRITING: rows of numbers; THE REFERENCE'S P, READING OR WRITING: names, heads, configurations. (printed by gen_paq5.py); THE REFERENCE'S P, READING OR WRITING: maps. (printed by gen_paq6.py); THE REFERENCE'S P, READING OR WRITING: commands, entries. (printed by gen_paq5.py); THE PROGRAM'S WRITER: a sheet; its numbers, flags, texts; THE PROGRAM'S WRITER: numbers with a sign, flags, texts, rows of numbers. (printed by gen_pas2.py); THE PROGRAM'S WRITER: records. (printed by gen_pas2.py). (joined out of PaQ4, PaQ5, PaQ6, PaQ7, PaS1, PaS2, PaS3 by shake.py)
-/
import Derived.Lib.AppendStr
import Derived.Test.YtlnneacgllhdhaaGreatDoorWcm15
import Derived.Test.YtlnneacgllhdhaaGreatDoorWcm09
import Derived.Test.YtlnneacgllhdhaaGreatDoorWcm10
import Derived.Test.YtlnneacgllhdhaaGreatDoorWcm12
import Derived.Test.YtlnneacgllhdhaaGreatDoorWcm08
import Derived.Test.YtlnneacgllhdhaaGreatDoorWcm14
section
namespace Go.Proofs.YtlnneacgllhdhaaGreatDoor
open Go.RowKit OctMath
set_option linter.unusedVariables false
variable {σ : Type}
/-- A list that grows while P steps. -/
structure Gr (M : Md σ) (w0 w1 : World) (t : TypeId) (size : Nat) (v : Value) (k : Nat) (xs : List Value) (s : σ) (wr : World) : Prop where
  wk : Wk M w0 s wr
  own : wr.ownsRow w1.heap.size t size v k xs
  free : ∀ b, v.ownBlock = some b → Free M b wr
  lo : w0.heap.size ≤ w1.heap.size
  hi : w1.heap.size ≤ wr.heap.size
theorem Gr.start {M : Md σ} {w0 w1 : World} {s : σ} (t : TypeId) (size : Nat) (h : Wk M w0 s w1) : Gr M w0 w1 t size (.slice none 0 0) 0 [] s w1 := ⟨h, ⟨by simp, .inl ⟨rfl, rfl⟩⟩, fun b e => by simp [Value.ownBlock] at e, h.stp.size, Nat.le_refl _⟩
theorem Stp.own {M : Md σ} {w w' : World} {base size n : Nat} {t : TypeId} {v : Value} {xs : List Value} (h : Stp M w w') (ho : w.ownsRow base t size v n xs) (hH : ∀ k, v.ownBlock = some k → Free M k w) : w'.ownsRow base t size v n xs := by
  obtain ⟨hl, h0⟩ := ho
  refine ⟨hl, ?_⟩
  rcases h0 with h0 | ⟨g, cap, cur, rfl, h1, h2, h3⟩
  · exact .inl h0
  · have hf := hH g rfl
    exact .inr ⟨g, cap, cur, rfl, h1, (h.block g hf.lt hf.wr).trans h2, h3⟩
theorem Gr.call {M : Md σ} {w0 w1 wr w' : World} {t : TypeId} {size : Nat} {v : Value} {k : Nat} {xs : List Value} {s s' : σ} (h : Gr M w0 w1 t size v k xs s wr) (h1 : M.St s' w') (h2 : Stp M wr w') : Gr M w0 w1 t size v k xs s' w' :=
  ⟨h.wk.call h1 h2, h2.own h.own h.free, fun b e => (h.free b e).step h2, h.lo, Nat.le_trans h.hi h2.size⟩
theorem Gr.later {M : Md σ} (hM : MdOk M) {w0 w1 wr w' : World} {t : TypeId} {size : Nat} {v : Value} {k : Nat} {xs : List Value} {s : σ} (h : Gr M w0 w1 t size v k xs s wr) (hb : Below wr.heap.size wr w') : Gr M w0 w1 t size v k xs s w' :=
  ⟨h.wk.later hM hb, h.own.kept (below_grown hb) (by cases hv : v.ownBlock <;> simp), fun b e => (h.free b e).grown hM h.wk.st (below_grown hb) (fun k e => by cases e), h.lo, Nat.le_trans h.hi hb.size⟩
theorem Gr.alloc {M : Md σ} (hM : MdOk M) {w0 w1 wr : World} {t : TypeId} {size : Nat} {v : Value} {k : Nat} {xs : List Value} {s : σ} (h : Gr M w0 w1 t size v k xs s wr) (o : Obj) : Gr M w0 w1 t size v k xs s (wr.alloc o) := h.later hM ((Below.refl _ _).alloc (Nat.le_refl _) o)
/-- Own lists lie behind w1. -/
theorem Gr.base {M : Md σ} {w0 w1 wr : World} {t : TypeId} {size : Nat} {v : Value} {k : Nat} {xs : List Value} {s : σ} (h : Gr M w0 w1 t size v k xs s wr) {b : Nat} (e : v.ownBlock = some b) : w1.heap.size ≤ b := (h.own.lt b e).1
theorem Gr.only {M : Md σ} (hM : MdOk M) {w0 w1 wr w' : World} {t t' : TypeId} {size : Nat} {v : Value} {k b : Nat} {xs : List Value} {cs : Array Value} {s : σ} (h : Gr M w0 w1 t size v k xs s wr) (hb : Bk M w0 b t' cs wr) (ho : Only b wr w') (hne : v.ownBlock ≠ some b) : Gr M w0 w1 t size v k xs s w' :=
  ⟨h.wk.only hM hb ho, ho.own h.own hne, fun j e => (h.free j e).grown hM h.wk.st ho.grown (fun i e' => by injection e' with e'; rw [← e']; exact hb.free), h.lo, by rw [ho.size]; exact h.hi⟩
/-- One element more: its literal is made, and appended. -/
theorem Gr.more {M : Md σ} (hM : MdOk M) {w0 w1 wr w' : World} {t : TypeId} {size : Nat} {v v' : Value} {k k' : Nat} {xs xs' : List Value} {s : σ} (h : Gr M w0 w1 t size v k xs s wr) (hl : w1.heap.size ≤ wr.heap.size) (ho : w'.ownsRow w1.heap.size t size v' k' xs') (hg : wr.grownBy w' v.ownBlock) (hv : v'.ownBlock = v.ownBlock ∨ v'.ownBlock = some wr.heap.size) : Gr M w0 w1 t size v' k' xs' s w' := by
  have hr : ∀ b, v.ownBlock = some b → Free M b wr ∧ w0.heap.size ≤ b := fun b e => ⟨h.free b e, Nat.le_trans h.lo (h.base e)⟩
  obtain ⟨a, dq⟩ := hM.grown h.wk.st hg (fun b e => (hr b e).1)
  refine ⟨h.wk.grown hM hg hr, ho, fun b e => ?_, h.lo, Nat.le_trans h.hi hg.size⟩
  rcases hv with hv | hv
  · exact (h.free b (hv ▸ e)).grown hM h.wk.st hg (fun b e => (hr b e).1)
  · rw [hv] at e
    injection e with e
    subst e
    exact ⟨(ho.lt _ hv).2, fun e => Nat.lt_irrefl _ (hM.fresh h.wk.st _ (.inl ((dq.1 _).1 e))), fun e => Nat.lt_irrefl _ (hM.fresh h.wk.st _ (.inr ((dq.2 _).1 e)))⟩
theorem Ls.more {M : Md σ} (hM : MdOk M) {w0 w1 wr w' : World} {t : TypeId} {size sz n : Nat} {v : Value} {k : Nat} {xs ys : List Value} {s : σ} {A : Option Addr} (h : Gr M w0 w1 t size v k xs s wr) (hg : wr.grownBy w' v.ownBlock) (hL : Ls M sz A n ys wr) (ha : 0 < n → ∀ ad, A = some ad → ad.block < w1.heap.size) : Ls M sz A n ys w' :=
  hL.grown hM h.wk.st hg h.free (fun hn ad e e' => by have := ha hn ad e; have := h.base e'; omega)
theorem Bk.more {M : Md σ} (hM : MdOk M) {w0 w1 wr w' : World} {t t' : TypeId} {size b : Nat} {v : Value} {k : Nat} {xs : List Value} {cs : Array Value} {s : σ} (h : Gr M w0 w1 t size v k xs s wr) (hg : wr.grownBy w' v.ownBlock) (hB : Bk M w0 b t' cs wr) (ha : b < w1.heap.size) : Bk M w0 b t' cs w' :=
  hB.grown hM h.wk.st hg h.free (fun e => by have := h.base e; omega)
/-- A list of one's own: it lies behind lo. -/
structure Lx (M : Md σ) (lo size : Nat) (A : Option Addr) (c n : Nat) (xs : List Value) (w : World) : Prop where
  ls : Ls M size A n xs w
  lo : 0 < n → ∀ ad, A = some ad → lo ≤ ad.block
  kc : n ≤ c
  cm : c ≤ maxLen
theorem Lx.call {M : Md σ} {lo size c n : Nat} {A : Option Addr} {xs : List Value} {w w' : World} (h : Lx M lo size A c n xs w) (s : Stp M w w') : Lx M lo size A c n xs w' := ⟨h.ls.call s, h.lo, h.kc, h.cm⟩
theorem Lx.alloc {M : Md σ} (hM : MdOk M) {s : σ} {lo size c n : Nat} {A : Option Addr} {xs : List Value} {w : World} (h : Lx M lo size A c n xs w) (hs : M.St s w) (o : Obj) : Lx M lo size A c n xs (w.alloc o) := ⟨h.ls.alloc hM hs o, h.lo, h.kc, h.cm⟩
theorem Lx.only {M : Md σ} (hM : MdOk M) {s : σ} {lo size c n b : Nat} {A : Option Addr} {xs : List Value} {w w' : World} (h : Lx M lo size A c n xs w) (hs : M.St s w) (ho : Only b w w') (hf : Free M b w) (hb : b < lo) : Lx M lo size A c n xs w' :=
  ⟨h.ls.only hM hs ho hf (fun hn ad e => by have := h.lo hn ad e; omega), h.lo, h.kc, h.cm⟩
theorem Lx.mono {M : Md σ} {lo lo' size c n : Nat} {A : Option Addr} {xs : List Value} {w : World} (h : Lx M lo size A c n xs w) (hl : lo' ≤ lo) : Lx M lo' size A c n xs w := ⟨h.ls, fun hn ad e => Nat.le_trans hl (h.lo hn ad e), h.kc, h.cm⟩
/-- What a step of P does that answers a list. -/
def RetLs (M : Md σ) (size : Nat) (s' : σ) (cells : List Value) (n : Nat) (w : World) (e : Ending) (w' : World) : Prop :=
  ∃ A c, e = .returned (.slice A n c) ∧ Lx M w.heap.size size A c n cells w' ∧ M.St s' w' ∧ Stp M w w'
theorem Gr.list {M : Md σ} {w0 w1 wr : World} {t : TypeId} {size : Nat} {v : Value} {k : Nat} {xs : List Value} {s : σ} (h : Gr M w0 w1 t size v k xs s wr) : RetLs M size s xs k w0 (.returned v) wr := by
  obtain ⟨A1, c1, rfl, h1, h2⟩ := own_slice h.own
  refine ⟨A1, c1, rfl, ⟨⟨Reads.of_own h.own, fun hk ad e => ?_⟩, fun hk ad e => ?_, h1, h2⟩, h.wk.st, h.wk.stp⟩
  · rcases h.own.2 with ⟨e', h0⟩ | ⟨b, c, cur, e', hb, -⟩
    · omega
    · injection e' with e' _ _
      rw [e] at e'
      obtain rfl := Option.some.inj e'
      exact h.free b (by rw [e]; rfl)
  · rcases h.own.2 with ⟨e', h0⟩ | ⟨b, c, cur, e', hb, -⟩
    · omega
    · injection e' with e' _ _
      rw [e] at e'
      obtain rfl := Option.some.inj e'
      exact Nat.le_trans h.lo hb
end Go.Proofs.YtlnneacgllhdhaaGreatDoor
end
section
namespace Go.Proofs.YtlnneacgllhdhaaGreatDoor
open Go.RowKit OctMath
set_option linter.unusedVariables false
variable {σ : Type}
def IdOk (x : IdT) : Prop := x.ver < 18446744073709551616 ∧ (-9223372036854775808 ≤ x.idx ∧ x.idx ≤ 9223372036854775807) ∧ x.ep < 18446744073709551616
theorem HdOk.id_ {x : HdT} (h : HdOk x) : IdOk x.id := ⟨h.ver, h.idx, h.ep⟩
def IntsOk (l : List Int) : Prop := (∀ y ∈ l, I64 y) ∧ l.length ≤ 1048576
end Go.Proofs.YtlnneacgllhdhaaGreatDoor
end
section
namespace Go.Proofs.YtlnneacgllhdhaaGreatDoor
open Go.RowKit OctMath
set_option linter.unusedVariables false
variable {σ : Type}
theorem Gr.off {M : Md σ} {w0 w1 wr : World} {t : TypeId} {size : Nat} {v : Value} {k : Nat} {xs : List Value} {s : σ} (h : Gr M w0 w1 t size v k xs s wr) {x : Nat} (hx : wr.heap.size ≤ x) : v.ownBlock ≠ some x := fun e => by have := (h.free x e).lt; omega
def MapOk (x : Nat × List (Int × Int)) : Prop := x.1 < 18446744073709551616 ∧ (∀ y ∈ x.2, MemOk y) ∧ x.2.length ≤ 1048576
end Go.Proofs.YtlnneacgllhdhaaGreatDoor
end
section
namespace Go.Proofs.YtlnneacgllhdhaaGreatDoor
open Go.RowKit OctMath
set_option linter.unusedVariables false
variable {σ : Type}
theorem CmdOk.map_ {x : CmdT} (h : CmdOk x) : MapOk (x.mep, x.mem) := h.map
theorem CmdOk.id_ {x : CmdT} (h : CmdOk x) : IdOk x.id := h.id
end Go.Proofs.YtlnneacgllhdhaaGreatDoor
end
section
namespace Go.Proofs.YtlnneacgllhdhaaGreatDoor
open Go.RowKit OctMath
set_option linter.unusedVariables false
section
variable {P : Program} (w : World)
end
/-- A sheet at block g: what is written so far is xs; it lies in none of the blocks that H names. -/
structure Sh (H : Nat → Prop) (g : Nat) (xs : List Nat) (w : World) : Prop where
  out : ∃ v, Blk w g 170 #[v] ∧ w.ownsRow 0 5 1 v xs.length (xs.map bv) ∧ v.ownBlock ≠ some g ∧ (∀ k, H k → v.ownBlock ≠ some k)
theorem Sh.lt {H : Nat → Prop} {g : Nat} {xs : List Nat} {w : World} (h : Sh H g xs w) : g < w.heap.size := by
  obtain ⟨v, hB, _⟩ := h.out
  exact hB.lt
theorem Sh.mono {H H' : Nat → Prop} {g : Nat} {xs : List Nat} {w : World} (h : Sh H g xs w) (hs : ∀ k, H' k → H k ∨ w.heap.size ≤ k) : Sh H' g xs w := by
  obtain ⟨v, hB, hO, hg, hh⟩ := h.out
  exact ⟨v, hB, hO, hg, fun k hk e => (hs k hk).elim (fun h => hh k h e) (fun h => by have := (hO.lt k e).2; omega)⟩
theorem Sh.later {H : Nat → Prop} {g : Nat} {xs : List Nat} {w w' : World} (h : Sh H g xs w) (hb : Below w.heap.size w w') : Sh H g xs w' := by
  obtain ⟨v, hB, hO, hg, hh⟩ := h.out
  exact ⟨v, hB.below hb hB.lt, hO.kept (row := none) ⟨hb.os, hb.tape, hb.output, hb.size, fun k hk _ => hb.block k hk⟩ (by cases h : v.ownBlock with | none => exact .inl rfl | some x => exact .inr (by simp)), hg, hh⟩
theorem Sh.only {H : Nat → Prop} {g k : Nat} {xs : List Nat} {w w' : World} (h : Sh H g xs w) (ho : Only k w w') (hk : H k) (hg' : k ≠ g) : Sh H g xs w' := by
  obtain ⟨v, hB, hO, hg, hh⟩ := h.out
  exact ⟨v, ho.blk hB (Ne.symm hg'), ho.own hO (hh k hk), hg, hh⟩
theorem Sh.alloc {H : Nat → Prop} {g : Nat} {xs : List Nat} {w : World} (h : Sh H g xs w) (o : Obj) : Sh H g xs (w.alloc o) := h.later ((Below.refl _ _).alloc (Nat.le_refl _) o)
/-- What a writer of a sheet does. -/
def RetW (H : Nat → Prop) (g : Nat) (ys : List Nat) (w : World) (e : Ending) (w' : World) : Prop := e = .returned (.tuple #[]) ∧ Sh H g ys w' ∧ Keep H w w'
/-- One append and its store. -/
theorem Sh.grow {H : Nat → Prop} {g n : Nat} {xs ys : List Nat} {w wa w2 : World} {v v2 : Value} (hS : Safe H g w) (hB : Blk w g 170 #[v]) (hO : w.ownsRow 0 5 1 v xs.length (xs.map bv)) (hg : v.ownBlock ≠ some g) (hh : ∀ k, H k → v.ownBlock ≠ some k)
    (ha : Below w.heap.size w wa) (ho : w2.ownsRow 0 5 1 v2 n (xs.map bv ++ ys.map bv)) (hn : n = xs.length + ys.length) (hgr : wa.grownBy w2 v.ownBlock) (hv : v2.ownBlock = v.ownBlock ∨ v2.ownBlock = some wa.heap.size) :
    Blk w2 g 170 #[v] ∧ Sh H g (xs ++ ys) (w2.setCell ⟨g, 0, none⟩ v2) ∧ Keep H w (w2.setCell ⟨g, 0, none⟩ v2) := by
  have hB2 : Blk w2 g 170 #[v] := (hB.below ha hB.lt).grown hgr (fun e => hg e.symm)
  have hne : ∀ k, k < w.heap.size → v.ownBlock ≠ some k → v2.ownBlock ≠ some k := fun k hk hn e => by
    rcases hv with h | h
    · exact hn (h.symm.trans e)
    · rw [h] at e; injection e with e; have := ha.size; omega
  refine ⟨hB2, ⟨v2, by have := hB2.set_ 0 v2; simpa using this, ?_, hne g hB.lt hg, fun k hk => hne k (hS k hk).1 (hh k hk)⟩, ?_⟩
  · have := (Only.set_ w2 g 0 v2).own ho (hne g hB.lt hg)
    rw [List.length_append, List.map_append, ← hn]
    exact this
  · exact ((Keep.below ha).trans (Keep.grown hgr (fun k hk e => hh k hk e.symm))).trans (Keep.set_ H _ 0 v2 (fun hk => (hS g hk).2 rfl))
theorem RetW.mono {H H' : Nat → Prop} {g : Nat} {ys : List Nat} {w w' : World} {e : Ending} (h : RetW H g ys w e w') (hs : ∀ k, H' k → H k) : RetW H' g ys w e w' := ⟨h.1, h.2.1.mono (fun k hk => .inl (hs k hk)), h.2.2.mono hs⟩
theorem Safe.keep {H : Nat → Prop} {g : Nat} {w w' : World} (h : Safe H g w) (k : Keep H w w') : Safe H g w' := fun j hj => ⟨Nat.lt_of_lt_of_le (h j hj).1 k.size, (h j hj).2⟩
set_option maxRecDepth 100000 in
theorem or_all : ∀ x : Fin 256, x.val ||| 128 = x.val % 128 + 128 := by decide
theorem or_128 (m : Nat) : bits .or .u8 ((m % 256 : Nat) : Int) 128 = ((m % 128 + 128 : Nat) : Int) := by
  have h := or_all ⟨m % 256, Nat.mod_lt _ (by decide)⟩
  simp only at h
  rw [show m % 256 % 128 = m % 128 by omega] at h
  have e := u8_or_nat (m % 256) 128 (by omega) (by omega)
  rw [h] at e
  exact e
set_option maxRecDepth 100000 in
set_option maxHeartbeats 1000000 in
theorem sh_number (H : Nat → Prop) (g : Nat) (xs : List Nat) (n : Nat) (w : World) (hp : Hid (Sh H g xs w)) (hS : Hid (Safe H g w)) (hn : n < 18446744073709551616) (hl : xs.length ≤ 70000000000000) :
    Calls Tryz.prog 99 #[.pointer (some ⟨g, 0, none⟩), .int .u64 (n : Int)] w (RetW H g (xs ++ putN n) w) := by
  obtain ⟨ii, hi1, hi2, hi3, hi4⟩ := info_parts Tryz.infoU8
  have HII := Lib.hid (And.intro hi1 (And.intro hi2 (And.intro hi3 hi4)))
  have HLEN := Lib.hid (putN_len10 hn)
  clear hi1 hi2 hi3 hi4
  go_enter Tryz.func99, Tryz.ntmps99
  go_wp2
  go_loopw [1] (fun vn wr => ∃ (m : Nat) (ys : List Nat), vn = .int .u64 m ∧ m < 18446744073709551616 ∧ Hid (ys ++ putN m = xs ++ putN n) ∧ Hid (Sh H g ys wr) ∧ Hid (Keep H w wr)) (fun vn _ => (intOf vn).toNat)
  case atStart => exact ⟨n, xs, rfl, hn, Lib.hid rfl, hp, Lib.hid (Keep.refl _ _)⟩
  case round =>
    obtain ⟨m, ys, rfl, hm, hy, hs, hk⟩ := hrel
    have HYL := Lib.hid (show ys.length + (putN m).length ≤ xs.length + 10 from by have := congrArg List.length hy.out; rw [List.length_append, List.length_append] at this; have := HLEN.out; omega)
    have HS := Lib.hid (hS.out.keep hk.out)
    obtain ⟨pv, hB, hO, hg, hh⟩ := hs.out.out
    have z0 : wr.cell? ⟨g, 0, none⟩ = some pv := hB.cell 0
    have HB := Lib.hid hB
    have HO := Lib.hid hO
    have PG := Lib.hid hg
    have HH := Lib.hid hh
    clear hB hO hg hh
    by_cases hc : m < 128
    · have d1 : decide ((m : Int) > 127) = false := decide_eq_false (by omega)
      have d2 : decide (127 < m) = false := decide_eq_false (by omega)
      have d3 : decide ((127 : Int) < (m : Int)) = false := decide_eq_false (by omega)
      have HY2 := Lib.hid (show ys ++ [m] = xs ++ putN n from by rw [← hy.out, putN_small hc])
      have e1 : (m : Int) % 256 = (m : Int) := by omega
      go_wp2_with (at_builtin
                   refine wpList_append_any _ rfl _ _ 33 rfl 0 5 ii _ 1 1 Tryz.underlying33 HII.out.1 HII.out.2.1 HII.out.2.2.1 HII.out.2.2.2 rfl (by decide) pv ys.length (ys.map bv) rfl (HO.out.alloc _) (wr.heap.size + 1) (some ⟨wr.heap.size, 0, none⟩) 1 1 [bv m] rfl (Reads.lit wr 5 [bv m] 1 1 rfl) (by intro u hu; rw [List.mem_singleton.1 hu]; rfl) (by have := HYL.out; have := putN_pos m; unfold maxLen; omega) (by have := HYL.out; have := putN_pos m; omega) (Nat.zero_le _) ?_
                   intro v2 w2 o2 g2 n2
                   obtain ⟨PA, pn, pc, rfl⟩ : ∃ PA pn pc, v2 = .slice PA pn pc := (by obtain ⟨x, y, e, _⟩ := own_slice o2; exact ⟨_, _, _, e⟩)
                   have HG := Lib.hid (Sh.grow (ys := [m]) HS.out HB.out HO.out PG.out HH.out ((Below.refl _ _).alloc (Nat.le_refl _) _) o2 rfl g2 n2)
                   have z0 := HG.out.1.cell 0
                   have z1 := HG.out.1.frozen 0
                   clear o2 g2 n2)
      go_end0
      refine ⟨rfl, ?_, hk.out.trans HG.out.2.2⟩
      rw [← HY2.out]
      exact HG.out.2.1
    · have d1 : decide ((m : Int) > 127) = true := decide_eq_true (by omega)
      have d2 : decide (127 < m) = true := decide_eq_true (by omega)
      have d3 : decide ((127 : Int) < (m : Int)) = true := decide_eq_true (by omega)
      have e2 : bits .or .u8 ((m : Int) % 256) 128 = ((m % 128 + 128 : Nat) : Int) := by rw [show (m : Int) % 256 = ((m % 256 : Nat) : Int) from by omega]; exact or_128 m
      have HY2 := Lib.hid (show (ys ++ [m % 128 + 128]) ++ putN (m / 128) = xs ++ putN n from by rw [← hy.out, putN_big hc]; simp)
      have hlt : m / 128 < m := by omega
      have HLT := Lib.hid hlt
      clear hlt
      go_wp2_with (at_builtin
                   refine wpList_append_any _ rfl _ _ 33 rfl 0 5 ii _ 1 1 Tryz.underlying33 HII.out.1 HII.out.2.1 HII.out.2.2.1 HII.out.2.2.2 rfl (by decide) pv ys.length (ys.map bv) rfl (HO.out.alloc _) (wr.heap.size + 1) (some ⟨wr.heap.size, 0, none⟩) 1 1 [bv (m % 128 + 128)] rfl (Reads.lit wr 5 [bv (m % 128 + 128)] 1 1 rfl) (by intro u hu; rw [List.mem_singleton.1 hu]; rfl) (by have := HYL.out; have := putN_pos m; unfold maxLen; omega) (by have := HYL.out; have := putN_pos m; omega) (Nat.zero_le _) ?_
                   intro v2 w2 o2 g2 n2
                   obtain ⟨PA, pn, pc, rfl⟩ : ∃ PA pn pc, v2 = .slice PA pn pc := (by obtain ⟨x, y, e, _⟩ := own_slice o2; exact ⟨_, _, _, e⟩)
                   have HG := Lib.hid (Sh.grow (ys := [m % 128 + 128]) HS.out HB.out HO.out PG.out HH.out ((Below.refl _ _).alloc (Nat.le_refl _) _) o2 rfl g2 n2)
                   have z0 := HG.out.1.cell 0
                   have z1 := HG.out.1.frozen 0
                   clear o2 g2 n2)
      have hlt := HLT.out
      refine ⟨⟨m / 128, ys ++ [m % 128 + 128], by go_num, by omega, HY2, Lib.hid HG.out.2.1, Lib.hid (hk.out.trans HG.out.2.2)⟩, by simp [intOf]; omega⟩
end Go.Proofs.YtlnneacgllhdhaaGreatDoor
end
section
namespace Go.Proofs.YtlnneacgllhdhaaGreatDoor
open Go.RowKit OctMath
set_option linter.unusedVariables false
theorem pInt_len {x : Int} (h : I64 x) : (pInt x).length ≤ 10 := putN_len10 (zz_lt h.1 h.2)
set_option maxRecDepth 100000 in
set_option maxHeartbeats 1000000 in
theorem sh_int (H : Nat → Prop) (g : Nat) (xs : List Nat) (n : Int) (w : World) (hp : Hid (Sh H g xs w)) (hS : Hid (Safe H g w)) (hn : I64 n) (hl : xs.length ≤ 70000000000000) :
    Calls Tryz.prog 100 #[.pointer (some ⟨g, 0, none⟩), .int .i64 n] w (RetW H g (xs ++ pInt n) w) := by
  obtain ⟨n1, n2⟩ := hn
  by_cases hs : 0 ≤ n
  · go_enter Tryz.func100, Tryz.ntmps100
    go_wp2_with fail
    rw [zzx_pos hs n2]
    refine (sh_number H g xs (zz n) w hp hS (zz_lt n1 n2) hl).mono ?_
    rintro e w1 ⟨rfl, h⟩
    have HH := Lib.hid h
    clear h
    go_wp2
    go_end0
    exact ⟨rfl, HH.out⟩
  · go_enter Tryz.func100, Tryz.ntmps100
    go_wp2_with fail
    rw [zzx_neg n1 (by omega)]
    refine (sh_number H g xs (zz n) w hp hS (zz_lt n1 n2) hl).mono ?_
    rintro e w1 ⟨rfl, h⟩
    have HH := Lib.hid h
    clear h
    go_wp2
    go_end0
    exact ⟨rfl, HH.out⟩
theorem flat_take {α : Type} (put : α → List Nat) (l : List α) (z : α) (k : Nat) (h : k < l.length) : (l.take (k + 1)).flatMap put = (l.take k).flatMap put ++ put (l.getD k z) := by
  rw [List.take_succ_eq_append_getElem h, List.flatMap_append, List.getD_eq_getElem?_getD, List.getElem?_eq_getElem h]
  simp
theorem flat_len {α : Type} (put : α → List Nat) (c : Nat) : ∀ (l : List α), (∀ x ∈ l, (put x).length ≤ c) → (l.flatMap put).length ≤ c * l.length
  | [], _ => by simp
  | x :: l, h => by
    have h1 := h x (by simp)
    have h2 := flat_len put c l (fun y hy => h y (by simp [hy]))
    rw [List.flatMap_cons, List.length_append, List.length_cons, Nat.mul_succ]
    omega
theorem getD_in {α : Type} {P : α → Prop} {l : List α} (h : ∀ x ∈ l, P x) {k : Nat} (hk : k < l.length) (z : α) : P (l.getD k z) := by
  rw [List.getD_eq_getElem?_getD, List.getElem?_eq_getElem hk]
  exact h _ (List.getElem_mem hk)
set_option maxRecDepth 100000 in
set_option maxHeartbeats 2000000 in
theorem sh_ints (H : Nat → Prop) (g : Nat) (xs : List Nat) (A : Option Addr) (n cap : Nat) (l : List Int) (w : World) (hp : Hid (Sh H g xs w)) (hS : Hid (Safe H g w)) (hL : Hid (Reads w w.heap.size 1 A n (l.map iv))) (hH : Hid (0 < n → ∀ ad, A = some ad → H ad.block)) (hn : Hid (l.length = n)) (hn2 : n ≤ 1048576) (hI : Hid (∀ x ∈ l, I64 x)) (hl : xs.length + 10485770 ≤ 70000000000000) :
    Calls Tryz.prog 102 #[.pointer (some ⟨g, 0, none⟩), .slice A n cap, .func (.func 100) #[.pointer (some ⟨g, 0, none⟩)] #[]] w (RetW H g (xs ++ pList pInt l) w) := by
  have e1 : IntKind.u64.wrap (n : Int) = (n : Int) := by rw [IntKind.wrap_u64]; omega
  have HC := Lib.hid (sh_number H g xs n w hp hS (by omega) (by omega))
  have HN10 := Lib.hid (putN_len10 (n := n) (by omega))
  go_enter Tryz.func102, Tryz.ntmps102
  go_wp2_with fail
  refine HC.out.mono ?_
  rintro e w1 ⟨rfl, h1, h2⟩
  have HP1 := Lib.hid h1
  have HK1 := Lib.hid h2
  clear h1 h2 HC e1
  go_wp2
  go_loopw [7, 15] (fun vx vi wr => ∃ (k : Nat) (ys : List Nat), k ≤ n ∧ vi = .int .i64 k ∧ Hid (ys = xs ++ (putN n ++ (l.take k).flatMap pInt)) ∧ Hid (Sh H g ys wr) ∧ Hid (Keep H w wr)) (fun _ vi _ => n - (intOf vi).toNat)
  case atStart => exact ⟨0, xs ++ putN n, by omega, rfl, Lib.hid (by simp), HP1, HK1⟩
  case round =>
    obtain ⟨k, ys, hk, rfl, hy, hs, hkp⟩ := hrel
    by_cases hlt : k < n
    · have d1 : decide (k < n) = true := decide_eq_true hlt
      have hkl : k < l.length := by have := hn.out; omega
      have hyl : ys.length ≤ xs.length + 10 + 10 * k := by
        have h1 := flat_len pInt 10 (l.take k) (fun x hx => pInt_len (hI.out x (List.mem_of_mem_take hx)))
        rw [List.length_take] at h1
        have h3 := HN10.out
        rw [hy.out, List.length_append, List.length_append]
        have : 10 * min k l.length ≤ 10 * k := Nat.mul_le_mul_left _ (Nat.min_le_left _ _)
        omega
      have hyb : ys.length + 10 ≤ 70000000000000 := by omega
      clear hyl
      have HY2 := Lib.hid (show ys ++ pInt (l.getD k 0) = xs ++ (putN n ++ (l.take (k + 1)).flatMap pInt) from by rw [hy.out, flat_take pInt l 0 k hkl]; simp only [List.append_assoc])
      have hx := getD_in hI.out hkl 0
      have hr := hkp.out.reads hL.out hH.out
      obtain ⟨ad, hA, hbl, hc⟩ := hr.2 (by omega : 0 < n)
      subst hA
      have hck := hc k (iv (l.getD k 0)) (by rw [List.getElem?_map, List.getD_eq_getElem?_getD, List.getElem?_eq_getElem hkl]; rfl)
      obtain ⟨y, hy'⟩ : ∃ y, l.getD k 0 = y := ⟨_, rfl⟩
      rw [hy'] at hck hx HY2
      unfold iv at hck
      have HX := Lib.hid hx
      clear hy' hc hbl hr hx
      go_wp2_with (first
        | (go_at_call 100; refine (sh_int H g ys y wr hs (Lib.hid (hS.out.keep hkp.out)) HX.out (by omega)).mono ?_; rintro e w3 ⟨rfl, h3⟩; have HR := Lib.hid h3; have HKA := Lib.hid hkp.out; clear h3))
      exact ⟨⟨k + 1, _, by omega, by go_num, HY2, Lib.hid HR.out.1, Lib.hid (HKA.out.trans HR.out.2)⟩, by simp [intOf]; omega⟩
    · obtain rfl : k = n := by omega
      go_wp2
      go_end0
      refine ⟨rfl, ?_, hkp.out⟩
      unfold pList
      have h := hy.out
      rw [List.take_of_length_le (by rw [hn.out]; exact Nat.le_refl _)] at h
      rw [hn.out, ← h]
      exact hs.out
end Go.Proofs.YtlnneacgllhdhaaGreatDoor
end
section
namespace Go.Proofs.YtlnneacgllhdhaaGreatDoor
open Go.RowKit OctMath
set_option linter.unusedVariables false
theorem pList_len {α : Type} (put : α → List Nat) (c : Nat) (l : List α) (h : ∀ x ∈ l, (put x).length ≤ c) (hl : l.length ≤ 1048576) : (pList put l).length ≤ 10 + c * l.length := by
  have h1 := flat_len put c l h
  have h2 := putN_len10 (n := l.length) (by omega)
  unfold pList
  rw [List.length_append]; omega
theorem pInts_len {x : List Int} (h : IntsOk x) : (pList pInt x).length ≤ 10485770 := by
  have h1 := pList_len pInt 10 x (fun y hy => pInt_len (h.1 y hy)) h.2
  have := h.2
  omega
theorem pId_len {x : IdT} (HO : IdOk x) : (pId x).length ≤ 30 := by
  have h0 := putN_len10 (n := x.ver) HO.1
  have h1 := pInt_len (x := x.idx) HO.2.1
  have h2 := putN_len10 (n := x.ep) HO.2.2
  unfold pId
  simp only [List.length_append]
  omega
set_option maxRecDepth 100000 in
set_option maxHeartbeats 4000000 in
theorem sh_id (H : Nat → Prop) (g : Nat) (xs : List Nat) (x : IdT) (w : World) (hp : Hid (Sh H g xs w)) (hS : Hid (Safe H g w))  (HO : IdOk x) (hl : xs.length + 30 ≤ 70000000000000) :
    Calls Tryz.prog 103 #[.pointer (some ⟨g, 0, none⟩), .agg #[.int .u64 (x.ver : Int), .int .i64 x.idx, .int .u64 (x.ep : Int)]] w (RetW H g (xs ++ pId x) w) := by
  have HO := Lib.hid HO
  have HL := Lib.hid hl
  obtain ⟨w0, ew0⟩ : ∃ w0, w.alloc (.cells #[.int .u64 (x.ver : Int), .int .i64 x.idx, .int .u64 (x.ep : Int)] 29) = w0 := ⟨_, rfl⟩
  have hb : Below w.heap.size w (w.alloc (.cells #[.int .u64 (x.ver : Int), .int .i64 x.idx, .int .u64 (x.ep : Int)] 29)) := (Below.refl _ _).alloc (Nat.le_refl _) _
  have hx : Blk (w.alloc (.cells #[.int .u64 (x.ver : Int), .int .i64 x.idx, .int .u64 (x.ep : Int)] 29)) w.heap.size 29 #[.int .u64 (x.ver : Int), .int .i64 x.idx, .int .u64 (x.ep : Int)] := Blk.new w _ _
  rw [ew0] at hb hx
  obtain ⟨H2, eH⟩ : ∃ H2 : Nat → Prop, (fun k => H k ∨ k = w.heap.size) = H2 := ⟨_, rfl⟩
  have h12 : ∀ k, H k → H2 k := fun k hk => by rw [← eH]; exact .inl hk
  have h2b : H2 w.heap.size := by rw [← eH]; exact .inr rfl
  have HP := Lib.hid (show Sh H2 g xs w0 from (hp.out.mono (fun k hk => by rw [← eH] at hk; exact hk.imp id (fun e => by omega))).later hb)
  have HS := Lib.hid (show Safe H2 g w0 from fun k hk => by rw [← eH] at hk; rcases hk with hk | hk; exact ⟨Nat.lt_of_lt_of_le (hS.out k hk).1 hb.size, (hS.out k hk).2⟩; exact ⟨by rw [hk]; exact hx.lt, by have := hp.out.lt; omega⟩)
  have HK := Lib.hid (Keep.below hb : Keep H w w0)
  have HX := Lib.hid hx
  have H12 := Lib.hid h12
  have H2B := Lib.hid h2b
  clear hb hx eH h12 h2b
  have c0 := HX.out.cell 0
  go_enter Tryz.func103, Tryz.ntmps103
  go_wp2_with fail
  clear ew0
  refine (sh_number H2 g xs x.ver _ HP HS HO.out.1 (by have := HL.out; omega)).mono ?_
  rintro e w1 ⟨rfl, h1, h2⟩
  clear c0
  obtain ⟨y1, hy⟩ : ∃ y, xs ++ putN x.ver = y := ⟨_, rfl⟩
  rw [hy] at h1
  have HL := Lib.hid (show y1.length + 20 ≤ 70000000000000 from by have h3 := HL.out; have h4 := putN_len10 (n := x.ver) HO.out.1; rw [← hy, List.length_append]; omega)
  have HY1 := Lib.hid hy
  have HP := Lib.hid h1
  have HS := Lib.hid (HS.out.keep h2)
  have HX := Lib.hid (h2.blk HX.out H2B.out)
  have HK := Lib.hid (HK.out.trans (h2.mono H12.out))
  clear h1 h2 hy
  have c1 := HX.out.cell 1
  go_wp2_with fail
  refine (sh_int H2 g y1 x.idx _ HP HS HO.out.2.1 (by have := HL.out; omega)).mono ?_
  rintro e w2 ⟨rfl, h1, h2⟩
  clear c1
  obtain ⟨y2, hy⟩ : ∃ y, y1 ++ pInt x.idx = y := ⟨_, rfl⟩
  rw [hy] at h1
  have HL := Lib.hid (show y2.length + 10 ≤ 70000000000000 from by have h3 := HL.out; have h4 := pInt_len (x := x.idx) HO.out.2.1; rw [← hy, List.length_append]; omega)
  have HY2 := Lib.hid hy
  have HP := Lib.hid h1
  have HS := Lib.hid (HS.out.keep h2)
  have HX := Lib.hid (h2.blk HX.out H2B.out)
  have HK := Lib.hid (HK.out.trans (h2.mono H12.out))
  clear h1 h2 hy
  have c2 := HX.out.cell 2
  go_wp2_with fail
  refine (sh_number H2 g y2 x.ep _ HP HS HO.out.2.2 (by have := HL.out; omega)).mono ?_
  rintro e w3 ⟨rfl, h1, h2⟩
  clear c2
  obtain ⟨y3, hy⟩ : ∃ y, y2 ++ putN x.ep = y := ⟨_, rfl⟩
  rw [hy] at h1
  have HL := Lib.hid (show y3.length + 0 ≤ 70000000000000 from by have h3 := HL.out; have h4 := putN_len10 (n := x.ep) HO.out.2.2; rw [← hy, List.length_append]; omega)
  have HY3 := Lib.hid hy
  have HP := Lib.hid h1
  have HS := Lib.hid (HS.out.keep h2)
  have HX := Lib.hid (h2.blk HX.out H2B.out)
  have HK := Lib.hid (HK.out.trans (h2.mono H12.out))
  clear h1 h2 hy
  go_wp2
  go_end0
  have hz : xs ++ pId x = y3 := by
    rw [← HY3.out, ← HY2.out, ← HY1.out]
    unfold pId
    simp only [List.append_assoc]
  rw [hz]
  exact ⟨rfl, HP.out.mono (fun k hk => .inl (H12.out k hk)), HK.out⟩
set_option maxRecDepth 100000 in
set_option maxHeartbeats 4000000 in
theorem sh_header (H : Nat → Prop) (g : Nat) (xs : List Nat) (x : HdT) (w : World) (hp : Hid (Sh H g xs w)) (hS : Hid (Safe H g w))  (HO : HdOk x) (hl : xs.length + 70 ≤ 70000000000000) :
    Calls Tryz.prog 63 #[.pointer (some ⟨g, 0, none⟩), .agg #[.int .u64 (x.id.ver : Int), .int .i64 x.id.idx, .int .u64 (x.id.ep : Int), .int .i64 x.k, .int .i64 x.n, .int .i64 x.size, .int .u32 (x.sum : Int)]] w (RetW H g (xs ++ pHd x) w) := by
  have HO := Lib.hid HO
  have HL := Lib.hid hl
  obtain ⟨w0, ew0⟩ : ∃ w0, w.alloc (.cells #[.int .u64 (x.id.ver : Int), .int .i64 x.id.idx, .int .u64 (x.id.ep : Int), .int .i64 x.k, .int .i64 x.n, .int .i64 x.size, .int .u32 (x.sum : Int)] 32) = w0 := ⟨_, rfl⟩
  have hb : Below w.heap.size w (w.alloc (.cells #[.int .u64 (x.id.ver : Int), .int .i64 x.id.idx, .int .u64 (x.id.ep : Int), .int .i64 x.k, .int .i64 x.n, .int .i64 x.size, .int .u32 (x.sum : Int)] 32)) := (Below.refl _ _).alloc (Nat.le_refl _) _
  have hx : Blk (w.alloc (.cells #[.int .u64 (x.id.ver : Int), .int .i64 x.id.idx, .int .u64 (x.id.ep : Int), .int .i64 x.k, .int .i64 x.n, .int .i64 x.size, .int .u32 (x.sum : Int)] 32)) w.heap.size 32 #[.int .u64 (x.id.ver : Int), .int .i64 x.id.idx, .int .u64 (x.id.ep : Int), .int .i64 x.k, .int .i64 x.n, .int .i64 x.size, .int .u32 (x.sum : Int)] := Blk.new w _ _
  rw [ew0] at hb hx
  obtain ⟨H2, eH⟩ : ∃ H2 : Nat → Prop, (fun k => H k ∨ k = w.heap.size) = H2 := ⟨_, rfl⟩
  have h12 : ∀ k, H k → H2 k := fun k hk => by rw [← eH]; exact .inl hk
  have h2b : H2 w.heap.size := by rw [← eH]; exact .inr rfl
  have HP := Lib.hid (show Sh H2 g xs w0 from (hp.out.mono (fun k hk => by rw [← eH] at hk; exact hk.imp id (fun e => by omega))).later hb)
  have HS := Lib.hid (show Safe H2 g w0 from fun k hk => by rw [← eH] at hk; rcases hk with hk | hk; exact ⟨Nat.lt_of_lt_of_le (hS.out k hk).1 hb.size, (hS.out k hk).2⟩; exact ⟨by rw [hk]; exact hx.lt, by have := hp.out.lt; omega⟩)
  have HK := Lib.hid (Keep.below hb : Keep H w w0)
  have HX := Lib.hid hx
  have H12 := Lib.hid h12
  have H2B := Lib.hid h2b
  clear hb hx eH h12 h2b
  have c0 := HX.out.cell 0
  have c1 := HX.out.cell 1
  have c2 := HX.out.cell 2
  go_enter Tryz.func63, Tryz.ntmps63
  go_wp2_with fail
  clear ew0
  refine (sh_id H2 g xs x.id _ HP HS HO.out.id_ (by have := HL.out; omega)).mono ?_
  rintro e w1 ⟨rfl, h1, h2⟩
  clear c0
  clear c1
  clear c2
  obtain ⟨y1, hy⟩ : ∃ y, xs ++ pId x.id = y := ⟨_, rfl⟩
  rw [hy] at h1
  have HL := Lib.hid (show y1.length + 40 ≤ 70000000000000 from by have h3 := HL.out; have h4 := pId_len (x := x.id) HO.out.id_; rw [← hy, List.length_append]; omega)
  have HY1 := Lib.hid hy
  have HP := Lib.hid h1
  have HS := Lib.hid (HS.out.keep h2)
  have HX := Lib.hid (h2.blk HX.out H2B.out)
  have HK := Lib.hid (HK.out.trans (h2.mono H12.out))
  clear h1 h2 hy
  have c3 := HX.out.cell 3
  go_wp2_with fail
  refine (sh_int H2 g y1 x.k _ HP HS HO.out.k (by have := HL.out; omega)).mono ?_
  rintro e w2 ⟨rfl, h1, h2⟩
  clear c3
  obtain ⟨y2, hy⟩ : ∃ y, y1 ++ pInt x.k = y := ⟨_, rfl⟩
  rw [hy] at h1
  have HL := Lib.hid (show y2.length + 30 ≤ 70000000000000 from by have h3 := HL.out; have h4 := pInt_len (x := x.k) HO.out.k; rw [← hy, List.length_append]; omega)
  have HY2 := Lib.hid hy
  have HP := Lib.hid h1
  have HS := Lib.hid (HS.out.keep h2)
  have HX := Lib.hid (h2.blk HX.out H2B.out)
  have HK := Lib.hid (HK.out.trans (h2.mono H12.out))
  clear h1 h2 hy
  have c4 := HX.out.cell 4
  go_wp2_with fail
  refine (sh_int H2 g y2 x.n _ HP HS HO.out.n (by have := HL.out; omega)).mono ?_
  rintro e w3 ⟨rfl, h1, h2⟩
  clear c4
  obtain ⟨y3, hy⟩ : ∃ y, y2 ++ pInt x.n = y := ⟨_, rfl⟩
  rw [hy] at h1
  have HL := Lib.hid (show y3.length + 20 ≤ 70000000000000 from by have h3 := HL.out; have h4 := pInt_len (x := x.n) HO.out.n; rw [← hy, List.length_append]; omega)
  have HY3 := Lib.hid hy
  have HP := Lib.hid h1
  have HS := Lib.hid (HS.out.keep h2)
  have HX := Lib.hid (h2.blk HX.out H2B.out)
  have HK := Lib.hid (HK.out.trans (h2.mono H12.out))
  clear h1 h2 hy
  have c5 := HX.out.cell 5
  go_wp2_with fail
  refine (sh_int H2 g y3 x.size _ HP HS HO.out.size (by have := HL.out; omega)).mono ?_
  rintro e w4 ⟨rfl, h1, h2⟩
  clear c5
  obtain ⟨y4, hy⟩ : ∃ y, y3 ++ pInt x.size = y := ⟨_, rfl⟩
  rw [hy] at h1
  have HL := Lib.hid (show y4.length + 10 ≤ 70000000000000 from by have h3 := HL.out; have h4 := pInt_len (x := x.size) HO.out.size; rw [← hy, List.length_append]; omega)
  have HY4 := Lib.hid hy
  have HP := Lib.hid h1
  have HS := Lib.hid (HS.out.keep h2)
  have HX := Lib.hid (h2.blk HX.out H2B.out)
  have HK := Lib.hid (HK.out.trans (h2.mono H12.out))
  clear h1 h2 hy
  have c6 := HX.out.cell 6
  have eu : IntKind.u64.wrap (x.sum : Int) = (x.sum : Int) := by have := HO.out.sum; rw [IntKind.wrap_u64]; omega
  go_wp2_with fail
  refine (sh_number H2 g y4 x.sum _ HP HS (by have := HO.out.sum; omega) (by have := HL.out; omega)).mono ?_
  rintro e w5 ⟨rfl, h1, h2⟩
  clear c6
  clear eu
  obtain ⟨y5, hy⟩ : ∃ y, y4 ++ putN x.sum = y := ⟨_, rfl⟩
  rw [hy] at h1
  have HL := Lib.hid (show y5.length + 0 ≤ 70000000000000 from by have h3 := HL.out; have h4 := putN_len10 (n := x.sum) (by have := HO.out.sum; omega); rw [← hy, List.length_append]; omega)
  have HY5 := Lib.hid hy
  have HP := Lib.hid h1
  have HS := Lib.hid (HS.out.keep h2)
  have HX := Lib.hid (h2.blk HX.out H2B.out)
  have HK := Lib.hid (HK.out.trans (h2.mono H12.out))
  clear h1 h2 hy
  go_wp2
  go_end0
  have hz : xs ++ pHd x = y5 := by
    rw [← HY5.out, ← HY4.out, ← HY3.out, ← HY2.out, ← HY1.out]
    unfold pHd
    simp only [List.append_assoc]
  rw [hz]
  exact ⟨rfl, HP.out.mono (fun k hk => .inl (H12.out k hk)), HK.out⟩
set_option maxRecDepth 100000 in
set_option maxHeartbeats 4000000 in
theorem sh_conf (H : Nat → Prop) (g : Nat) (xs : List Nat) (A : Option Addr) (c : Nat) (B : Option Addr) (d : Nat) (x : List Int × List Int) (w : World) (hp : Hid (Sh H g xs w)) (hS : Hid (Safe H g w)) (hK : Hid (Reads w w.heap.size 1 A x.1.length (x.1.map iv))) (hKH : Hid (0 < x.1.length → ∀ ad, A = some ad → H ad.block)) (hJ : Hid (Reads w w.heap.size 1 B x.2.length (x.2.map iv))) (hJH : Hid (0 < x.2.length → ∀ ad, B = some ad → H ad.block)) (HO : IntsOk x.1 ∧ IntsOk x.2) (hl : xs.length + 20971590 ≤ 70000000000000) :
    Calls Tryz.prog 61 #[.pointer (some ⟨g, 0, none⟩), .agg #[.slice A x.1.length c, .slice B x.2.length d]] w (RetW H g (xs ++ pConf x) w) := by
  have HO := Lib.hid HO
  have HL := Lib.hid hl
  obtain ⟨w0, ew0⟩ : ∃ w0, w.alloc (.cells #[.slice A x.1.length c, .slice B x.2.length d] 27) = w0 := ⟨_, rfl⟩
  have hb : Below w.heap.size w (w.alloc (.cells #[.slice A x.1.length c, .slice B x.2.length d] 27)) := (Below.refl _ _).alloc (Nat.le_refl _) _
  have hx : Blk (w.alloc (.cells #[.slice A x.1.length c, .slice B x.2.length d] 27)) w.heap.size 27 #[.slice A x.1.length c, .slice B x.2.length d] := Blk.new w _ _
  rw [ew0] at hb hx
  obtain ⟨H2, eH⟩ : ∃ H2 : Nat → Prop, (fun k => H k ∨ k = w.heap.size) = H2 := ⟨_, rfl⟩
  have h12 : ∀ k, H k → H2 k := fun k hk => by rw [← eH]; exact .inl hk
  have h2b : H2 w.heap.size := by rw [← eH]; exact .inr rfl
  have HP := Lib.hid (show Sh H2 g xs w0 from (hp.out.mono (fun k hk => by rw [← eH] at hk; exact hk.imp id (fun e => by omega))).later hb)
  have HS := Lib.hid (show Safe H2 g w0 from fun k hk => by rw [← eH] at hk; rcases hk with hk | hk; exact ⟨Nat.lt_of_lt_of_le (hS.out k hk).1 hb.size, (hS.out k hk).2⟩; exact ⟨by rw [hk]; exact hx.lt, by have := hp.out.lt; omega⟩)
  have HK := Lib.hid (Keep.below hb : Keep H w w0)
  have HX := Lib.hid hx
  have K := Lib.hid (hK.out.later hb)
  have J := Lib.hid (hJ.out.later hb)
  have H12 := Lib.hid h12
  have H2B := Lib.hid h2b
  clear hb hx eH h12 h2b
  have c0 := HX.out.cell 0
  go_enter Tryz.func61, Tryz.ntmps61
  go_wp2_with fail
  clear ew0
  refine (sh_ints H2 g xs A x.1.length c x.1 _ HP HS K (Lib.hid (fun h ad e => H12.out _ (hKH.out h ad e))) (Lib.hid rfl) (HO.out.1).2 (Lib.hid (HO.out.1).1) (by have := HL.out; omega)).mono ?_
  rintro e w1 ⟨rfl, h1, h2⟩
  clear c0
  obtain ⟨y1, hy⟩ : ∃ y, xs ++ pList pInt x.1 = y := ⟨_, rfl⟩
  rw [hy] at h1
  have HL := Lib.hid (show y1.length + 10485820 ≤ 70000000000000 from by have h3 := HL.out; have h4 := pInts_len (x := x.1) HO.out.1; rw [← hy, List.length_append]; omega)
  have HY1 := Lib.hid hy
  have HP := Lib.hid h1
  have HS := Lib.hid (HS.out.keep h2)
  have HX := Lib.hid (h2.blk HX.out H2B.out)
  have HK := Lib.hid (HK.out.trans (h2.mono H12.out))
  have K := Lib.hid (h2.reads K.out (fun h ad e => H12.out _ (hKH.out h ad e)))
  have J := Lib.hid (h2.reads J.out (fun h ad e => H12.out _ (hJH.out h ad e)))
  clear h1 h2 hy
  have c1 := HX.out.cell 1
  go_wp2_with fail
  refine (sh_ints H2 g y1 B x.2.length d x.2 _ HP HS J (Lib.hid (fun h ad e => H12.out _ (hJH.out h ad e))) (Lib.hid rfl) (HO.out.2).2 (Lib.hid (HO.out.2).1) (by have := HL.out; omega)).mono ?_
  rintro e w2 ⟨rfl, h1, h2⟩
  clear c1
  obtain ⟨y2, hy⟩ : ∃ y, y1 ++ pList pInt x.2 = y := ⟨_, rfl⟩
  rw [hy] at h1
  have HL := Lib.hid (show y2.length + 50 ≤ 70000000000000 from by have h3 := HL.out; have h4 := pInts_len (x := x.2) HO.out.2; rw [← hy, List.length_append]; omega)
  have HY2 := Lib.hid hy
  have HP := Lib.hid h1
  have HS := Lib.hid (HS.out.keep h2)
  have HX := Lib.hid (h2.blk HX.out H2B.out)
  have HK := Lib.hid (HK.out.trans (h2.mono H12.out))
  have K := Lib.hid (h2.reads K.out (fun h ad e => H12.out _ (hKH.out h ad e)))
  have J := Lib.hid (h2.reads J.out (fun h ad e => H12.out _ (hJH.out h ad e)))
  clear h1 h2 hy
  go_wp2
  go_end0
  have hz : xs ++ pConf x = y2 := by
    rw [← HY2.out, ← HY1.out]
    unfold pConf
    simp only [List.append_assoc]
  rw [hz]
  exact ⟨rfl, HP.out.mono (fun k hk => .inl (H12.out k hk)), HK.out⟩
end Go.Proofs.YtlnneacgllhdhaaGreatDoor
end
