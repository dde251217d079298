/-
  THE REFERENCE'S P WHILE IT READS: its state, its numbers, flags. (printed by gen_paq2.py); THE REFERENCE'S P WHILE IT READS: lengths, bytes, texts; THE REFERENCE'S P: the reading one, the writing one; THE PROGRAM'S WRITER: a sheet; its numbers, flags, texts; WHAT IS READ IS WHAT ITS WRITER PUTS: plain. (printed by gen_paw1.py). (joined out of PaQ2, PaQ3, PaQ8, PaS1, PaW1 by shake.py)
-/
import Derived.Lib.AppendStr
import Derived.Test.YthgiafjiemiifaaGreatPbk07
import Derived.Test.YthgiafjiemiifaaGreatPbk08
import Derived.Test.YthgiafjiemiifaaGreatPbk09
import Derived.Test.YthgiafjiemiifaaGreatPbk05
import Derived.Test.YthgiafjiemiifaaGreatPbk01
section
namespace Go.Proofs.YthgiafjiemiifaaGreat
open Go.RowKit OctMath
set_option linter.unusedVariables false
/-- The reference's reader: where it is; whether it has gone bad. -/
structure PF (g : Nat) (A : Option Addr) (n cap : Nat) (bs : List Nat) (s : Int × Bool) (w : World) : Prop where
  blk : Blk w g 112 #[.slice A n cap, .int .i64 s.1, .bool false, .bool s.2]
  rd : Reads w w.heap.size 1 A n (bs.map bv)
  ne : 0 < n → ∀ ad, A = some ad → Not g ad.block
theorem PF.turn {g : Nat} {A : Option Addr} {n cap : Nat} {s s' : Int × Bool} {bs : List Nat} {w w' : World} (h : PF g A n cap bs s w) (k : Keep (Not g) w w') (hB : Blk w' g 112 #[.slice A n cap, .int .i64 s'.1, .bool false, .bool s'.2]) : PF g A n cap bs s' w' :=
  ⟨hB, k.reads h.rd h.ne, h.ne⟩
theorem PF.drew {g : Nat} {A : Option Addr} {n cap : Nat} {bs : List Nat} {s : Int × Bool} {w : World} (h : PF g A n cap bs s w) : PF g A n cap bs s w.drew := ⟨h.blk, h.rd, h.ne⟩
theorem PF.put {g : Nat} {A : Option Addr} {n cap : Nat} {q : Int} {bs : List Nat} {s : Int × Bool} {w : World} (h : PF g A n cap bs s w) : PF g A n cap bs (q, s.2) (w.setCell ⟨g, 1, none⟩ (.int .i64 q)) ∧ Keep (Not g) w (w.setCell ⟨g, 1, none⟩ (.int .i64 q)) := by
  have k := Keep.set_ (Not g) w (g := g) 1 (.int .i64 q) (fun h => h rfl)
  exact ⟨h.turn k (by have := h.blk.set_ 1 (.int .i64 q); simpa using this), k⟩
end Go.Proofs.YthgiafjiemiifaaGreat
end
section
namespace Go.Proofs.YthgiafjiemiifaaGreat
open Go.RowKit OctMath
set_option linter.unusedVariables false
theorem PF.below {g : Nat} {A : Option Addr} {n cap : Nat} {bs : List Nat} {s : Int × Bool} {w w' : World} (h : PF g A n cap bs s w) (k : Below w.heap.size w w') : PF g A n cap bs s w' :=
  h.turn (Keep.below k) ((Keep.below (H := fun _ => True) k).blk h.blk trivial)
/-- Bytes do not lie in the reader's own block. -/
theorem PF.apart {g : Nat} {A : Option Addr} {n cap : Nat} {bs : List Nat} {s : Int × Bool} {w : World} (h : PF g A n cap bs s w) {B m : Nat} {A1 : Option Addr} {xs : List Nat} (hr : Reads w B 1 A1 m (xs.map bv)) : 0 < m → ∀ ad, A1 = some ad → Not g ad.block := by
  intro hm ad ha hg
  obtain ⟨ad', u, e1, hB, h2, h3⟩ := hr.at_ hm
  rw [ha] at e1
  injection e1 with e1
  rw [← e1] at h3
  rw [show ad.add 0 = ad from rfl] at h3
  rw [List.getElem?_map] at h2
  obtain ⟨x, -, rfl⟩ := Option.map_eq_some_iff.1 h2
  have hb : w.heap[ad.block]? = some (.cells #[.slice A n cap, .int .i64 s.1, .bool false, .bool s.2] 112) := by rw [hg]; exact h.blk
  unfold World.cell? at h3
  rw [hb] at h3
  simp only at h3
  split at h3
  · cases h3
  · match ho : ad.off, h3 with
    | 0, h3 => simp [bv] at h3
    | 1, h3 => simp [bv] at h3
    | 2, h3 => simp [bv] at h3
    | 3, h3 => simp [bv] at h3
    | k + 4, h3 => simp at h3
end Go.Proofs.YthgiafjiemiifaaGreat
end
section
namespace Go.Proofs.YthgiafjiemiifaaGreat
open Go.RowKit OctMath
set_option linter.unusedVariables false
/-- P while it writes. -/
def wMd (g : Nat) : Md (List Nat) where
  g := g
  write := true
  bad _ := false
  fit s a := s.length + a ≤ 70000000000000
  St s w := Pen (fun _ => False) g s w
  dep w k := k = g ∨ ∃ v, w.cell? ⟨g, 0, none⟩ = some v ∧ v.ownBlock = some k
  wr w k := k = g ∨ ∃ v, w.cell? ⟨g, 0, none⟩ = some v ∧ v.ownBlock = some k
  u64 s x := (s ++ putN x, x)
  u32 s x := (s ++ putN x, x)
  int s x := (s ++ putN (zz x), x)
  flag s x := (s ++ [x.toNat], x)
  text s x := (s ++ (putN x.length ++ x), x)
  len s x := (s ++ putN x, x)
/-- The blocks that P leaves alone. -/
def offW (g : Nat) (w : World) : Nat → Prop := fun k => k < w.heap.size ∧ ¬ (wMd g).wr w k
theorem wMd_pen {g : Nat} {xs : List Nat} {w : World} (h : Pen (fun _ => False) g xs w) : Hid (Pen (offW g w) g xs w) ∧ Hid (Safe (offW g w) g w) := by
  obtain ⟨v, hB, hO, hg, -⟩ := h.out
  exact ⟨Lib.hid ⟨v, hB, hO, hg, fun k hk e => hk.2 (.inr ⟨v, hB.cell 0, e⟩)⟩, Lib.hid fun k hk => ⟨hk.1, fun e => hk.2 (.inl e)⟩⟩
theorem wMd_ret {g : Nat} {xs ys : List Nat} {v : Value} {w w' : World} {e : Ending} (h0 : Pen (fun _ => False) g xs w) (h : RetPen (offW g w) g ys v w e w') : RetP (wMd g) ys v w e w' := by
  obtain ⟨h1, h2, h3⟩ := h
  obtain ⟨pv, hB, hO, hg, hh⟩ := h2.out
  have hw : ∀ k, k < w.heap.size → (wMd g).wr w' k → (wMd g).wr w k := fun k hk e => by
    by_cases hn : (wMd g).wr w k
    · exact hn
    · rcases e with e | ⟨u, hu, e⟩
      · exact .inl e
      · have hc : w'.cell? ⟨g, 0, none⟩ = some pv := hB.cell 0
        rw [hu] at hc
        injection hc with hc
        subst hc
        exact absurd e (hh k ⟨hk, hn⟩)
  exact ⟨h1, ⟨pv, hB, hO, hg, fun _ h => h.elim⟩, h3.os, h3.tape, h3.output, h3.size, fun k hk hn => h3.block k ⟨hk, hn⟩ hk, hw, hw⟩
theorem octs_strOf (x : List Nat) (h : ∀ y ∈ x, y < 256) : octs (strOf x) = x := by
  unfold octs strOf
  simp only [List.map_map]
  conv => rhs; rw [← List.map_id x]
  refine List.map_congr_left fun y hy => ?_
  have := h y hy
  simp [Nat.mod_eq_of_lt this]
theorem strOf_size (x : List Nat) : (strOf x).size = x.length := by
  unfold strOf
  simp [ByteArray.size]
theorem wMd_ok (g : Nat) : MdOk (wMd g) where
  gwr := fun _ => .inl rfl
  glt := fun h => h.lt
  cwrite := fun h => by obtain ⟨v, hB, _⟩ := h.out; exact hB.cell 2
  cbad := fun h => by obtain ⟨v, hB, _⟩ := h.out; exact hB.cell 3
  grown := fun {s w w' row} h hg hr => by
    obtain ⟨v, hB, hO, hne, -⟩ := h.out
    have h0 : w.cell? ⟨g, 0, none⟩ = some v := hB.cell 0
    have hgr : some g ≠ row := fun e => (hr g e.symm).wr (.inl rfl)
    have hB' := hB.grown hg hgr
    have h0' : w'.cell? ⟨g, 0, none⟩ = some v := hB'.cell 0
    refine ⟨⟨v, hB', hO.kept hg ?_, hne, fun _ h => h.elim⟩, ?_, ?_⟩
    · cases row with
      | none => cases hv : v.ownBlock <;> simp
      | some k => exact .inr (fun e => (hr k rfl).wr (.inr ⟨v, h0, e⟩))
    · intro k; show (_ ∨ _) ↔ (_ ∨ _); rw [h0, h0']
    · intro k; show (_ ∨ _) ↔ (_ ∨ _); rw [h0, h0']
  fresh := fun h k hk => by
    obtain ⟨v, hB, hO, hne, -⟩ := h.out
    have h0 : _ = some v := hB.cell 0
    rcases hk with (rfl | ⟨u, hu, e⟩) | (rfl | ⟨u, hu, e⟩)
    · exact hB.lt
    · rw [h0] at hu; injection hu with hu; exact (hO.lt k (hu ▸ e)).2
    · exact hB.lt
    · rw [h0] at hu; injection hu with hu; exact (hO.lt k (hu ▸ e)).2
  mono := fun {s a b} h hb => Nat.le_trans (Nat.add_le_add_left hb _) h
  f_u64 := fun {s a x} h hx => by have := putN_len10 hx; show (s ++ putN x).length + a ≤ _; rw [List.length_append]; unfold wMd at h; simp only at h; omega
  f_u32 := fun {s a x} h hx => by have := putN_len10 (n := x) (by omega); show (s ++ putN x).length + a ≤ _; rw [List.length_append]; unfold wMd at h; simp only at h; omega
  f_int := fun {s a x} h hx => by have := putN_len10 (zz_lt hx.1 hx.2); show (s ++ putN (zz x)).length + a ≤ _; rw [List.length_append]; unfold wMd at h; simp only at h; omega
  f_flag := fun {s a x} h => by show (s ++ [x.toNat]).length + a ≤ _; rw [List.length_append]; unfold wMd at h; simp only at h; simp only [List.length_singleton]; omega
  f_text := fun {s a x} h hx => by have := putN_len10 (n := x.length) (by omega); show (s ++ (putN x.length ++ x)).length + a ≤ _; rw [List.length_append, List.length_append]; unfold wMd at h; simp only at h; omega
  f_len := fun {s a x} h hx => by have := putN_len10 (n := x) (by omega); show (s ++ putN x).length + a ≤ _; rw [List.length_append]; unfold wMd at h; simp only at h; omega
  r_u64 := fun h => h
  r_u32 := fun h => h
  r_int := fun h => h
  r_text := fun h => h
  r_len := fun h => h
  wlen := fun _ _ _ => rfl
  c_u64 := fun s x w h hx hf => by obtain ⟨a, b⟩ := wMd_pen h.out; unfold wMd at hf; simp only at hf; exact (pen_u64 _ g s x w a b hx (by omega)).mono fun _ _ r => wMd_ret h.out r
  c_u32 := fun s x w h hx hf => by obtain ⟨a, b⟩ := wMd_pen h.out; unfold wMd at hf; simp only at hf; exact (pen_u32 _ g s x w a b hx (by omega)).mono fun _ _ r => wMd_ret h.out r
  c_int := fun s x w h hx hf => by obtain ⟨a, b⟩ := wMd_pen h.out; unfold wMd at hf; simp only at hf; exact (pen_int _ g s x w a b hx.1 hx.2 (by omega)).mono fun _ _ r => wMd_ret h.out r
  c_flag := fun s x w h hf => by obtain ⟨a, b⟩ := wMd_pen h.out; unfold wMd at hf; simp only at hf; exact (pen_flag _ g s x w a b (by omega)).mono fun _ _ r => wMd_ret h.out r
  c_text := fun s x w h hx hf => by
    obtain ⟨a, b⟩ := wMd_pen h.out
    unfold wMd at hf
    simp only at hf
    have hs := strOf_size x
    have := pen_text _ g s (strOf x) w a b (by omega) (by omega)
    rw [octs_strOf x hx.1, hs] at this
    exact this.mono fun _ _ r => wMd_ret h.out r
  c_len := fun s x w h hx hf => by obtain ⟨a, b⟩ := wMd_pen h.out; unfold wMd at hf; simp only at hf; exact (pen_len _ g s x w a b hx (by omega)).mono fun _ _ r => wMd_ret h.out r
end Go.Proofs.YthgiafjiemiifaaGreat
end
section
namespace Go.Proofs.YthgiafjiemiifaaGreat
open Go.RowKit OctMath
set_option linter.unusedVariables false
section
variable {P : Program} (w : World)
/-- A text's bytes behind a row of one's own: the row's block stays, or is a new one. -/
theorem run_append_text (base : Nat) (t u ty e : TypeId) (i : TypeInfo) (ht : P.underlying t = some (.slice e)) (hu : P.underlying u = some .string) (hi : P.info? e = some i) (hz : i.zero = some (.int .u8 0))
    (hsize : i.size = 1) (hby : i.bytes = 1) (v : Value) (n : Nat) (xs : List Value) (hown : w.ownsRow base e 1 v n xs) (s : ByteArray)
    (h63 : n + s.size ≤ maxLen) (hbytes : n + s.size ≤ 140737488355328) (hbase : base ≤ w.heap.size) :
    ∃ v' w', (Builtin.append_ #[t, u] ty #[v, .string s]).run P w = .ok v' w' ∧ w'.ownsRow base e 1 v' (n + s.size) (xs ++ Lib.strCells s) ∧ w.grownBy w' v.ownBlock ∧
      (v'.ownBlock = v.ownBlock ∨ v'.ownBlock = some w.heap.size) := by
  obtain ⟨v', w', hr, h1, h2, h3⟩ := Lib.run_append_own_string (P := P) w base t u ty e i ht hu hi hz hsize hby v n xs hown s h63 hbytes hbase
  refine ⟨v', w', hr, h1, h2, ?_⟩
  have hxl : xs.length = n := by simpa using hown.1
  have hm : n + s.size ≤ 9223372036854775807 := by unfold maxLen at h63; omega
  rcases hown.2 with ⟨rfl, rfl⟩ | ⟨g, cap, cur, rfl, hbg, hg, hnc, hcm, hcs, -⟩
  · by_cases h0 : s.size = 0
    · rw [h3.2 ⟨rfl, h0⟩]; exact .inl rfl
    · have hr2 := run_append_nil_string (P := P) w t u ty e i (.int .u8 0) ht hu hi hz s (by omega) (by omega) (by rw [hby]; omega)
      rw [hr] at hr2
      injection hr2 with a b
      rw [a]; exact .inr rfl
  · by_cases hroom : n + s.size ≤ cap
    · have hr2 := Lib.run_append_room_string (P := P) w t u ty e i ht hu hi hsize g n cap cur hg s hroom (by rw [hcs]; omega)
      rw [hr] at hr2
      injection hr2 with a b
      rw [a]; exact .inl rfl
    · have hr2 := Lib.run_append_grow_string (P := P) w t u ty e i (.int .u8 0) ht hu hi hz ⟨g, 0, none⟩ n cap xs (by rw [hsize]; simpa using hxl) (hown.cells (g := g) rfl) s (by omega) (by omega) (by rw [hby]; exact growslice_fits (by omega) (by omega))
      rw [hr] at hr2
      injection hr2 with a b
      rw [a]; exact .inr rfl
theorem wpList_append_text {ops : Array Oper} {rest : List Oper} {o : Oper} {a : Act} {Q : Exit → Act → World → Prop} (hgd : o.guard = none) (sl x : Operand) (t u : TypeId)
    (ho : o.op = .call { callee := .builtin .append, args := #[sl, x], argTypes := #[t, u] })
    (base : Nat) (e : TypeId) (i : TypeInfo) (ht : P.underlying t = some (.slice e)) (hu : P.underlying u = some .string) (hi : P.info? e = some i) (hz : i.zero = some (.int .u8 0))
    (hsize : i.size = 1) (hby : i.bytes = 1)
    (v : Value) (n : Nat) (xs : List Value) (hs : a.eval sl = v) (hown : w.ownsRow base e 1 v n xs) (s : ByteArray) (hx : a.eval x = .string s)
    (h63 : n + s.size ≤ maxLen) (hbytes : n + s.size ≤ 140737488355328) (hbase : base ≤ w.heap.size)
    (h : ∀ v' w', w'.ownsRow base e 1 v' (n + s.size) (xs ++ Lib.strCells s) → w.grownBy w' v.ownBlock → (v'.ownBlock = v.ownBlock ∨ v'.ownBlock = some w.heap.size) → wpList P ops Q rest (a.put o.dst v') w') : wpList P ops Q (o :: rest) a w := by
  refine wpList_plain hgd fun K hK => ?_
  obtain ⟨v', w', hr, h2, h3, h4⟩ := run_append_text (P := P) w base t u o.type e i ht hu hi hz hsize hby v n xs hown s h63 hbytes hbase
  unfold Oper.wp execOp
  simp only [ho, resolve, invoke, builtin, Sem.run_bind, Sem.run_pure, Result.andThen_ok, List.map_toArray, List.map_cons, List.map_nil, hs, hx, hr]
  exact hK _ _ (h v' w' h2 h3 h4)
end
theorem strCells_octs (s : ByteArray) : Lib.strCells s = (octs s).map bv := by
  unfold Lib.strCells octs bv
  simp
/-- A sheet at block g: what is written so far is xs; it lies in none of the blocks that H names. -/
structure Sh (H : Nat → Prop) (g : Nat) (xs : List Nat) (w : World) : Prop where
  out : ∃ v, Blk w g 119 #[v] ∧ w.ownsRow 0 5 1 v xs.length (xs.map bv) ∧ v.ownBlock ≠ some g ∧ (∀ k, H k → v.ownBlock ≠ some k)
theorem Sh.lt {H : Nat → Prop} {g : Nat} {xs : List Nat} {w : World} (h : Sh H g xs w) : g < w.heap.size := by
  obtain ⟨v, hB, _⟩ := h.out
  exact hB.lt
theorem Sh.mono {H H' : Nat → Prop} {g : Nat} {xs : List Nat} {w : World} (h : Sh H g xs w) (hs : ∀ k, H' k → H k ∨ w.heap.size ≤ k) : Sh H' g xs w := by
  obtain ⟨v, hB, hO, hg, hh⟩ := h.out
  exact ⟨v, hB, hO, hg, fun k hk e => (hs k hk).elim (fun h => hh k h e) (fun h => by have := (hO.lt k e).2; omega)⟩
theorem Sh.later {H : Nat → Prop} {g : Nat} {xs : List Nat} {w w' : World} (h : Sh H g xs w) (hb : Below w.heap.size w w') : Sh H g xs w' := by
  obtain ⟨v, hB, hO, hg, hh⟩ := h.out
  exact ⟨v, hB.below hb hB.lt, hO.kept (row := none) ⟨hb.os, hb.tape, hb.output, hb.size, fun k hk _ => hb.block k hk⟩ (by cases h : v.ownBlock with | none => exact .inl rfl | some x => exact .inr (by simp)), hg, hh⟩
theorem Sh.only {H : Nat → Prop} {g k : Nat} {xs : List Nat} {w w' : World} (h : Sh H g xs w) (ho : Only k w w') (hk : H k) (hg' : k ≠ g) : Sh H g xs w' := by
  obtain ⟨v, hB, hO, hg, hh⟩ := h.out
  exact ⟨v, ho.blk hB (Ne.symm hg'), ho.own hO (hh k hk), hg, hh⟩
theorem Sh.alloc {H : Nat → Prop} {g : Nat} {xs : List Nat} {w : World} (h : Sh H g xs w) (o : Obj) : Sh H g xs (w.alloc o) := h.later ((Below.refl _ _).alloc (Nat.le_refl _) o)
/-- What a writer of a sheet does. -/
def RetW (H : Nat → Prop) (g : Nat) (ys : List Nat) (w : World) (e : Ending) (w' : World) : Prop := e = .returned (.tuple #[]) ∧ Sh H g ys w' ∧ Keep H w w'
/-- One append and its store. -/
theorem Sh.grow {H : Nat → Prop} {g n : Nat} {xs ys : List Nat} {w wa w2 : World} {v v2 : Value} (hS : Safe H g w) (hB : Blk w g 119 #[v]) (hO : w.ownsRow 0 5 1 v xs.length (xs.map bv)) (hg : v.ownBlock ≠ some g) (hh : ∀ k, H k → v.ownBlock ≠ some k)
    (ha : Below w.heap.size w wa) (ho : w2.ownsRow 0 5 1 v2 n (xs.map bv ++ ys.map bv)) (hn : n = xs.length + ys.length) (hgr : wa.grownBy w2 v.ownBlock) (hv : v2.ownBlock = v.ownBlock ∨ v2.ownBlock = some wa.heap.size) :
    Blk w2 g 119 #[v] ∧ Sh H g (xs ++ ys) (w2.setCell ⟨g, 0, none⟩ v2) ∧ Keep H w (w2.setCell ⟨g, 0, none⟩ v2) := by
  have hB2 : Blk w2 g 119 #[v] := (hB.below ha hB.lt).grown hgr (fun e => hg e.symm)
  have hne : ∀ k, k < w.heap.size → v.ownBlock ≠ some k → v2.ownBlock ≠ some k := fun k hk hn e => by
    rcases hv with h | h
    · exact hn (h.symm.trans e)
    · rw [h] at e; injection e with e; have := ha.size; omega
  refine ⟨hB2, ⟨v2, by have := hB2.set_ 0 v2; simpa using this, ?_, hne g hB.lt hg, fun k hk => hne k (hS k hk).1 (hh k hk)⟩, ?_⟩
  · have := (Only.set_ w2 g 0 v2).own ho (hne g hB.lt hg)
    rw [List.length_append, List.map_append, ← hn]
    exact this
  · exact ((Keep.below ha).trans (Keep.grown hgr (fun k hk e => hh k hk e.symm))).trans (Keep.set_ H _ 0 v2 (fun hk => (hS g hk).2 rfl))
theorem RetW.mono {H H' : Nat → Prop} {g : Nat} {ys : List Nat} {w w' : World} {e : Ending} (h : RetW H g ys w e w') (hs : ∀ k, H' k → H k) : RetW H' g ys w e w' := ⟨h.1, h.2.1.mono (fun k hk => .inl (hs k hk)), h.2.2.mono hs⟩
theorem Safe.keep {H : Nat → Prop} {g : Nat} {w w' : World} (h : Safe H g w) (k : Keep H w w') : Safe H g w' := fun j hj => ⟨Nat.lt_of_lt_of_le (h j hj).1 k.size, (h j hj).2⟩
set_option maxRecDepth 100000 in
theorem or_all : ∀ x : Fin 256, x.val ||| 128 = x.val % 128 + 128 := by decide
theorem or_128 (m : Nat) : bits .or .u8 ((m % 256 : Nat) : Int) 128 = ((m % 128 + 128 : Nat) : Int) := by
  have h := or_all ⟨m % 256, Nat.mod_lt _ (by decide)⟩
  simp only at h
  rw [show m % 256 % 128 = m % 128 by omega] at h
  have e := u8_or_nat (m % 256) 128 (by omega) (by omega)
  rw [h] at e
  exact e
set_option maxRecDepth 100000 in
set_option maxHeartbeats 1000000 in
theorem sh_number (H : Nat → Prop) (g : Nat) (xs : List Nat) (n : Nat) (w : World) (hp : Hid (Sh H g xs w)) (hS : Hid (Safe H g w)) (hn : n < 18446744073709551616) (hl : xs.length ≤ 70000000000000) :
    Calls Tryz.prog 50 #[.pointer (some ⟨g, 0, none⟩), .int .u64 (n : Int)] w (RetW H g (xs ++ putN n) w) := by
  obtain ⟨ii, hi1, hi2, hi3, hi4⟩ := info_parts Tryz.infoU8
  have HII := Lib.hid (And.intro hi1 (And.intro hi2 (And.intro hi3 hi4)))
  have HLEN := Lib.hid (putN_len10 hn)
  clear hi1 hi2 hi3 hi4
  go_enter Tryz.func50, Tryz.ntmps50
  go_wp2
  go_loopw [1] (fun vn wr => ∃ (m : Nat) (ys : List Nat), vn = .int .u64 m ∧ m < 18446744073709551616 ∧ Hid (ys ++ putN m = xs ++ putN n) ∧ Hid (Sh H g ys wr) ∧ Hid (Keep H w wr)) (fun vn _ => (intOf vn).toNat)
  case atStart => exact ⟨n, xs, rfl, hn, Lib.hid rfl, hp, Lib.hid (Keep.refl _ _)⟩
  case round =>
    obtain ⟨m, ys, rfl, hm, hy, hs, hk⟩ := hrel
    have HYL := Lib.hid (show ys.length + (putN m).length ≤ xs.length + 10 from by have := congrArg List.length hy.out; rw [List.length_append, List.length_append] at this; have := HLEN.out; omega)
    have HS := Lib.hid (hS.out.keep hk.out)
    obtain ⟨pv, hB, hO, hg, hh⟩ := hs.out.out
    have z0 : wr.cell? ⟨g, 0, none⟩ = some pv := hB.cell 0
    have HB := Lib.hid hB
    have HO := Lib.hid hO
    have PG := Lib.hid hg
    have HH := Lib.hid hh
    clear hB hO hg hh
    by_cases hc : m < 128
    · have d1 : decide ((m : Int) > 127) = false := decide_eq_false (by omega)
      have d2 : decide (127 < m) = false := decide_eq_false (by omega)
      have d3 : decide ((127 : Int) < (m : Int)) = false := decide_eq_false (by omega)
      have HY2 := Lib.hid (show ys ++ [m] = xs ++ putN n from by rw [← hy.out, putN_small hc])
      have e1 : (m : Int) % 256 = (m : Int) := by omega
      go_wp2_with (at_builtin
                   refine wpList_append_any _ rfl _ _ 22 rfl 0 5 ii _ 1 1 Tryz.underlying22 HII.out.1 HII.out.2.1 HII.out.2.2.1 HII.out.2.2.2 rfl (by decide) pv ys.length (ys.map bv) rfl (HO.out.alloc _) (wr.heap.size + 1) (some ⟨wr.heap.size, 0, none⟩) 1 1 [bv m] rfl (Reads.lit wr 5 [bv m] 1 1 rfl) (by intro u hu; rw [List.mem_singleton.1 hu]; rfl) (by have := HYL.out; have := putN_pos m; unfold maxLen; omega) (by have := HYL.out; have := putN_pos m; omega) (Nat.zero_le _) ?_
                   intro v2 w2 o2 g2 n2
                   obtain ⟨PA, pn, pc, rfl⟩ : ∃ PA pn pc, v2 = .slice PA pn pc := (by obtain ⟨x, y, e, _⟩ := own_slice o2; exact ⟨_, _, _, e⟩)
                   have HG := Lib.hid (Sh.grow (ys := [m]) HS.out HB.out HO.out PG.out HH.out ((Below.refl _ _).alloc (Nat.le_refl _) _) o2 rfl g2 n2)
                   have z0 := HG.out.1.cell 0
                   have z1 := HG.out.1.frozen 0
                   clear o2 g2 n2)
      go_end0
      refine ⟨rfl, ?_, hk.out.trans HG.out.2.2⟩
      rw [← HY2.out]
      exact HG.out.2.1
    · have d1 : decide ((m : Int) > 127) = true := decide_eq_true (by omega)
      have d2 : decide (127 < m) = true := decide_eq_true (by omega)
      have d3 : decide ((127 : Int) < (m : Int)) = true := decide_eq_true (by omega)
      have e2 : bits .or .u8 ((m : Int) % 256) 128 = ((m % 128 + 128 : Nat) : Int) := by rw [show (m : Int) % 256 = ((m % 256 : Nat) : Int) from by omega]; exact or_128 m
      have HY2 := Lib.hid (show (ys ++ [m % 128 + 128]) ++ putN (m / 128) = xs ++ putN n from by rw [← hy.out, putN_big hc]; simp)
      have hlt : m / 128 < m := by omega
      have HLT := Lib.hid hlt
      clear hlt
      go_wp2_with (at_builtin
                   refine wpList_append_any _ rfl _ _ 22 rfl 0 5 ii _ 1 1 Tryz.underlying22 HII.out.1 HII.out.2.1 HII.out.2.2.1 HII.out.2.2.2 rfl (by decide) pv ys.length (ys.map bv) rfl (HO.out.alloc _) (wr.heap.size + 1) (some ⟨wr.heap.size, 0, none⟩) 1 1 [bv (m % 128 + 128)] rfl (Reads.lit wr 5 [bv (m % 128 + 128)] 1 1 rfl) (by intro u hu; rw [List.mem_singleton.1 hu]; rfl) (by have := HYL.out; have := putN_pos m; unfold maxLen; omega) (by have := HYL.out; have := putN_pos m; omega) (Nat.zero_le _) ?_
                   intro v2 w2 o2 g2 n2
                   obtain ⟨PA, pn, pc, rfl⟩ : ∃ PA pn pc, v2 = .slice PA pn pc := (by obtain ⟨x, y, e, _⟩ := own_slice o2; exact ⟨_, _, _, e⟩)
                   have HG := Lib.hid (Sh.grow (ys := [m % 128 + 128]) HS.out HB.out HO.out PG.out HH.out ((Below.refl _ _).alloc (Nat.le_refl _) _) o2 rfl g2 n2)
                   have z0 := HG.out.1.cell 0
                   have z1 := HG.out.1.frozen 0
                   clear o2 g2 n2)
      have hlt := HLT.out
      refine ⟨⟨m / 128, ys ++ [m % 128 + 128], by go_num, by omega, HY2, Lib.hid HG.out.2.1, Lib.hid (hk.out.trans HG.out.2.2)⟩, by simp [intOf]; omega⟩
end Go.Proofs.YthgiafjiemiifaaGreat
end
section
namespace Go.Proofs.YthgiafjiemiifaaGreat
open OctMath
set_option linter.unusedVariables false
set_option linter.unusedSimpArgs false
theorem Wrote.step {α β : Type} {bs : List Nat} {r : Rd α} {f : α → Rd β} {put : α → List Nat} (h : Wrote bs r put) {at_ q : Nat} {y : β} (e : r.bind f at_ = some (y, q)) (hl : at_ ≤ bs.length) :
    ∃ x p, r at_ = some (x, p) ∧ f x p = some (y, q) ∧ at_ ≤ p ∧ p ≤ bs.length ∧ (bs.drop at_).take (p - at_) = put x := by
  cases h1 : r at_ with
  | none => rw [Rd.bind_none h1] at e; cases e
  | some v =>
    obtain ⟨x, p⟩ := v
    rw [Rd.bind_some h1] at e
    obtain ⟨a1, a2, a3⟩ := h.rd at_ x p h1 hl
    exact ⟨x, p, rfl, e, a1, a2, a3⟩
def pInt (x : Int) : List Nat := putN (zz x)
def pFlag (b : Bool) : List Nat := [if b then 1 else 0]
def pText (xs : List Nat) : List Nat := putN xs.length ++ xs
def pList {α : Type} (put : α → List Nat) (l : List α) : List Nat := putN l.length ++ l.flatMap put
def pMem (x : Int × Int) : List Nat := pInt x.1 ++ pInt x.2
def pMap (x : Nat × List (Int × Int)) : List Nat := putN x.1 ++ pList pMem x.2
def pConf (x : List Int × List Int) : List Nat := pList pInt x.1 ++ pList pInt x.2
def pId (d : IdT) : List Nat := putN d.ver ++ (pInt d.idx ++ putN d.ep)
def pHd (h : HdT) : List Nat := pId h.id ++ (pInt h.k ++ (pInt h.n ++ (pInt h.size ++ putN h.sum)))
def pCmd (c : CmdT) : List Nat := pInt c.kind ++ (putN c.client ++ (putN c.seq ++ (pText c.key ++ (pInt c.size ++ (putN c.sum ++ (putN c.version ++ (putN c.epoch ++ (pInt c.group ++ (pInt c.node ++ (pFlag c.up ++ (pId c.id ++ pMap (c.mep, c.mem))))))))))))
def pEnt (e : EntT) : List Nat := putN e.index ++ (putN e.term ++ (pInt e.kind ++ (pCmd e.cmd ++ pConf (e.voters, e.learners))))
end Go.Proofs.YthgiafjiemiifaaGreat
end
