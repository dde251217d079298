/-
  wire.page: took, bytes, count, as functions of the page's state. (printed by gen_wirt3.py); More words for rows of bytes: a part of a row; opened, next: bytes whose sum stands behind them; a frame at the head of a stream; sealed, Frame: bytes are framed; ROWS OF STRUCTS: a whole struct of a row read; a row of one struct made; what stands at an element's place. (joined out of WirT3, Lib2, WirF2, WirF5, LibE by shake.py)
-/
import Derived.Great.BuildSlice
import Derived.Test.YtijdbdenmcjmmaaGreatDoorNen21
import Derived.Test.YtijdbdenmcjmmaaGreatDoorNen20
import Derived.Test.YtijdbdenmcjmmaaGreatDoorNen01
import Derived.Test.YtijdbdenmcjmmaaGreatDoorNen03
section
namespace Go.Proofs.YtijdbdenmcjmmaaGreatDoor
open Go.RowKit OctMath
set_option linter.unusedVariables false
set_option linter.unusedSimpArgs false
def PS (g : Nat) (A : Option Addr) (n cap : Nat) (bs : List Nat) : Option Nat → World → Prop
  | some p => PW g A n cap bs p
  | none => PX g A n cap bs
def tkF {α : Type} (r : Rd α) (x0 : α) : Option Nat → α × Option Nat
  | some p => match r p with
    | some (x, q) => (x, some q)
    | none => (x0, none)
  | none => (x0, none)
theorem tkF_bind {α β : Type} (r : Rd α) (k : α → Rd β) (x0 : α) (S : Option Nat) : S.bind (r.bind k) = (tkF r x0 S).2.bind (k (tkF r x0 S).1) := by
  cases S with
  | none => rfl
  | some p =>
    show (match r p with | some (x, q) => k x q | none => none) = _
    unfold tkF
    simp only
    cases r p with
    | none => rfl
    | some y => rfl
theorem tkF_none {α : Type} {r : Rd α} {x0 : α} {p : Nat} (e : r p = none) : tkF r x0 (some p) = (x0, none) := by simp only [tkF, e]
theorem tkF_some {α : Type} {r : Rd α} {x0 x : α} {p q : Nat} (e : r p = some (x, q)) : tkF r x0 (some p) = (x, some q) := by simp only [tkF, e]
theorem tkF_back {α : Type} {r : Rd α} {x0 : α} {S : Option Nat} (h : (tkF r x0 S).2 ≠ none) : S ≠ none := by
  intro e; subst e; exact h rfl
def RetK {α : Type} (val : α → World → Value → Prop) (y : α × Option Nat) (g : Nat) (A : Option Addr) (n cap : Nat) (bs : List Nat) (w : World) (e : Ending) (w' : World) : Prop := Keep (Not g) w w' ∧ ∃ v, e = .returned v ∧ val y.1 w' v ∧ PS g A n cap bs y.2 w'
theorem RetT.k {α : Type} {r : Rd α} {val : α → World → Value → Prop} {z : Value} {g : Nat} {A : Option Addr} {n cap p : Nat} {bs : List Nat} {w w' : World} {e : Ending} {x0 : α} (hz : ∀ w, val x0 w z) (h : RetT (r p) val z g A n cap bs w e w') : RetK val (tkF r x0 (some p)) g A n cap bs w e w' := by
  obtain ⟨k, h⟩ := h
  cases e1 : r p with
  | none =>
    rw [e1] at h
    rw [tkF_none e1]
    exact ⟨k, _, h.1, hz _, h.2⟩
  | some y =>
    obtain ⟨x, q⟩ := y
    rw [e1] at h
    rw [tkF_some e1]
    obtain ⟨v, e2, hv, hp⟩ := h
    exact ⟨k, v, e2, hv, hp⟩
theorem PX.below {g : Nat} {A : Option Addr} {n cap : Nat} {bs : List Nat} {w w' : World} (h : PX g A n cap bs w) (k : Below w.heap.size w w') : PX g A n cap bs w' :=
  ⟨by obtain ⟨p, hp, hB⟩ := h.blk; exact ⟨p, hp, (Keep.below (H := fun _ => True) k).blk hB trivial⟩, h.inb.keep (Keep.below k) h.ne, h.ne⟩
theorem PX.drew {g : Nat} {A : Option Addr} {n cap : Nat} {bs : List Nat} {w : World} (h : PX g A n cap bs w) : PX g A n cap bs w.drew := ⟨h.blk, h.inb.drew, h.ne⟩
theorem PS.below {g : Nat} {A : Option Addr} {n cap : Nat} {bs : List Nat} {S : Option Nat} {w w' : World} (h : PS g A n cap bs S w) (k : Below w.heap.size w w') : PS g A n cap bs S w' := by
  cases S with
  | none => exact PX.below h k
  | some p => exact PW.below h k
theorem PS.drew {g : Nat} {A : Option Addr} {n cap : Nat} {bs : List Nat} {S : Option Nat} {w : World} (h : PS g A n cap bs S w) : PS g A n cap bs S w.drew := by
  cases S with
  | none => exact PX.drew h
  | some p => exact PW.drew h
theorem PS.only {g : Nat} {A : Option Addr} {n cap : Nat} {bs : List Nat} {S : Option Nat} {w w' : World} {y : Nat} (h : PS g A n cap bs S w) (k : Only y w w') (hy : y ≠ g) (hne : 0 < n → ∀ ad, A = some ad → Not y ad.block) : PS g A n cap bs S w' := by
  cases S with
  | none => exact PX.only h k hy hne
  | some p => exact PW.only h k hy hne
theorem PS.cells {g : Nat} {A : Option Addr} {n cap : Nat} {bs : List Nat} {S : Option Nat} {w : World} (h : PS g A n cap bs S w) : ∃ (p : Nat) (er : Value), p ≤ n ∧ Blk w g 69 #[.slice A n cap, .int .i64 (p : Int), er] ∧ (S = some p ∧ er = .nilIface ∨ S = none ∧ er = .iface 94 (.int .i64 50)) := by
  cases S with
  | none => obtain ⟨p, hp, hB⟩ := PX.blk h; exact ⟨p, _, hp, hB, .inr ⟨rfl, rfl⟩⟩
  | some p => exact ⟨p, _, PW.pl h, PW.blk h, .inl ⟨rfl, rfl⟩⟩
theorem PS.lt {g : Nat} {A : Option Addr} {n cap : Nat} {bs : List Nat} {S : Option Nat} {w : World} (h : PS g A n cap bs S w) : g < w.heap.size := by
  obtain ⟨p, er, -, hB, -⟩ := h.cells
  exact hB.lt
theorem PS.inb {g : Nat} {A : Option Addr} {n cap : Nat} {bs : List Nat} {S : Option Nat} {w : World} (h : PS g A n cap bs S w) : InB w A n cap bs := by
  cases S with
  | none => exact PX.inb h
  | some p => exact PW.inb h
def hdZ : HdT := ⟨⟨0, 0, 0⟩, 0, 0, 0, 0⟩
def entZ : EntT := ⟨0, 0, 0, ⟨0, 0, 0, [], 0, 0, 0, 0, 0, 0, false, ⟨0, 0, 0⟩, 0, []⟩, [], []⟩
theorem z_hd (w : World) : vHd hdZ w (.agg #[.int .u64 0, .int .i64 0, .int .u64 0, .int .i64 0, .int .i64 0, .int .i64 0, .int .u32 0]) := ⟨rfl, by constructor <;> decide⟩
theorem z_conf (lo : Nat) (w : World) : vConf lo ([], []) w (.agg #[.slice none 0 0, .slice none 0 0]) := ⟨none, 0, none, 0, rfl, lst_nil _ _ _, lst_nil _ _ _, ⟨fun y h => (by cases h), by decide⟩, ⟨fun y h => (by cases h), by decide⟩⟩
theorem z_int (w : World) : vI64 0 w (.int .i64 0) := ⟨rfl, by decide, by decide⟩
theorem z_num (w : World) : vU64 0 w (.int .u64 0) := ⟨rfl, by decide⟩
theorem z_byt (w : World) : vByt [] w (.slice none 0 0) := ⟨none, 0, rfl, Reads.none_, Nat.le_refl _, by decide, fun y h => (by cases h), by decide⟩
set_option maxRecDepth 100000 in
set_option maxHeartbeats 2000000 in
theorem wx_int (g : Nat) (A : Option Addr) (n cap : Nat) (bs : List Nat) (w : World) (hP : Hid (PX g A n cap bs w)) :
    Calls Tryz.prog 17 #[.pointer (some ⟨g, 0, none⟩), .func (.func 18) #[] #[]] w fun e w' => e = .returned (.int .i64 0) ∧ w' = w := by
  obtain ⟨p, hp, hB⟩ := hP.out.blk
  have c2 := hB.cell 2
  clear hB hp
  go_enter Tryz.func17, Tryz.ntmps17
  go_wp2
  go_ret
  exact ⟨rfl, rfl⟩
theorem tk_int (g : Nat) (A : Option Addr) (n cap : Nat) (bs : List Nat) (S : Option Nat) (w : World) (hP : Hid (PS g A n cap bs S w)) :
    Calls Tryz.prog 17 #[.pointer (some ⟨g, 0, none⟩), .func (.func 18) #[] #[]] w (RetK vI64 (tkF (rInt bs) (0 : Int) S) g A n cap bs w) := by
  cases S with
  | some p => exact (wt_int g A n cap bs p w hP).mono fun e w' h => h.k (fun _ => z_int _)
  | none => exact (wx_int g A n cap bs w hP).mono fun e w' h => by obtain ⟨rfl, rfl⟩ := h; exact ⟨Keep.refl _ _, _, rfl, z_int _, hP.out⟩
set_option maxRecDepth 100000 in
set_option maxHeartbeats 2000000 in
theorem wx_num (g : Nat) (A : Option Addr) (n cap : Nat) (bs : List Nat) (w : World) (hP : Hid (PX g A n cap bs w)) :
    Calls Tryz.prog 19 #[.pointer (some ⟨g, 0, none⟩), .func (.func 20) #[] #[]] w fun e w' => e = .returned (.int .u64 0) ∧ w' = w := by
  obtain ⟨p, hp, hB⟩ := hP.out.blk
  have c2 := hB.cell 2
  clear hB hp
  go_enter Tryz.func19, Tryz.ntmps19
  go_wp2
  go_ret
  exact ⟨rfl, rfl⟩
theorem tk_num (g : Nat) (A : Option Addr) (n cap : Nat) (bs : List Nat) (S : Option Nat) (w : World) (hP : Hid (PS g A n cap bs S w)) :
    Calls Tryz.prog 19 #[.pointer (some ⟨g, 0, none⟩), .func (.func 20) #[] #[]] w (RetK vU64 (tkF (rNum bs) (0 : Nat) S) g A n cap bs w) := by
  cases S with
  | some p => exact (wt_num g A n cap bs p w hP).mono fun e w' h => h.k (fun _ => z_num _)
  | none => exact (wx_num g A n cap bs w hP).mono fun e w' h => by obtain ⟨rfl, rfl⟩ := h; exact ⟨Keep.refl _ _, _, rfl, z_num _, hP.out⟩
set_option maxRecDepth 100000 in
set_option maxHeartbeats 2000000 in
theorem wx_flag (g : Nat) (A : Option Addr) (n cap : Nat) (bs : List Nat) (w : World) (hP : Hid (PX g A n cap bs w)) :
    Calls Tryz.prog 21 #[.pointer (some ⟨g, 0, none⟩), .func (.func 22) #[] #[]] w fun e w' => e = .returned (.bool false) ∧ w' = w := by
  obtain ⟨p, hp, hB⟩ := hP.out.blk
  have c2 := hB.cell 2
  clear hB hp
  go_enter Tryz.func21, Tryz.ntmps21
  go_wp2
  go_ret
  exact ⟨rfl, rfl⟩
theorem tk_flag (g : Nat) (A : Option Addr) (n cap : Nat) (bs : List Nat) (S : Option Nat) (w : World) (hP : Hid (PS g A n cap bs S w)) :
    Calls Tryz.prog 21 #[.pointer (some ⟨g, 0, none⟩), .func (.func 22) #[] #[]] w (RetK vBool (tkF (rFlag bs) false S) g A n cap bs w) := by
  cases S with
  | some p => exact (wt_flag g A n cap bs p w hP).mono fun e w' h => h.k (fun _ => rfl)
  | none => exact (wx_flag g A n cap bs w hP).mono fun e w' h => by obtain ⟨rfl, rfl⟩ := h; exact ⟨Keep.refl _ _, _, rfl, rfl, hP.out⟩
set_option maxRecDepth 100000 in
set_option maxHeartbeats 2000000 in
theorem wx_bytes (g : Nat) (A : Option Addr) (n cap : Nat) (bs : List Nat) (w : World) (hP : Hid (PX g A n cap bs w)) :
    Calls Tryz.prog 48 #[.pointer (some ⟨g, 0, none⟩), .func (.func 49) #[] #[]] w fun e w' => e = .returned (.slice none 0 0) ∧ w' = w := by
  obtain ⟨p, hp, hB⟩ := hP.out.blk
  have c2 := hB.cell 2
  clear hB hp
  go_enter Tryz.func48, Tryz.ntmps48
  go_wp2
  go_ret
  exact ⟨rfl, rfl⟩
theorem tk_bytes (g : Nat) (A : Option Addr) (n cap : Nat) (bs : List Nat) (S : Option Nat) (w : World) (hP : Hid (PS g A n cap bs S w)) :
    Calls Tryz.prog 48 #[.pointer (some ⟨g, 0, none⟩), .func (.func 49) #[] #[]] w (RetK vByt (tkF (rText bs) [] S) g A n cap bs w) := by
  cases S with
  | some p => exact (wt_bytes g A n cap bs p w hP).mono fun e w' h => h.k (fun _ => z_byt _)
  | none => exact (wx_bytes g A n cap bs w hP).mono fun e w' h => by obtain ⟨rfl, rfl⟩ := h; exact ⟨Keep.refl _ _, _, rfl, z_byt _, hP.out⟩
set_option maxRecDepth 100000 in
set_option maxHeartbeats 2000000 in
theorem wx_hd (g : Nat) (A : Option Addr) (n cap : Nat) (bs : List Nat) (w : World) (hP : Hid (PX g A n cap bs w)) :
    Calls Tryz.prog 28 #[.pointer (some ⟨g, 0, none⟩), .func (.func 29) #[] #[]] w fun e w' => e = .returned (.agg #[.int .u64 0, .int .i64 0, .int .u64 0, .int .i64 0, .int .i64 0, .int .i64 0, .int .u32 0]) ∧ Below w.heap.size w w' := by
  obtain ⟨w0, ew0⟩ : ∃ w0, w.alloc (.cells #[.int .u64 0, .int .i64 0, .int .u64 0, .int .i64 0, .int .i64 0, .int .i64 0, .int .u32 0] 32) = w0 := ⟨_, rfl⟩
  obtain ⟨w1, ew1⟩ : ∃ w1, w0.alloc (.cells #[.int .u64 0, .int .i64 0, .int .u64 0, .int .i64 0, .int .i64 0, .int .i64 0, .int .u32 0] 32) = w1 := ⟨_, rfl⟩
  have hx0 : Blk (w.alloc (.cells #[.int .u64 0, .int .i64 0, .int .u64 0, .int .i64 0, .int .i64 0, .int .i64 0, .int .u32 0] 32)) w.heap.size 32 #[.int .u64 0, .int .i64 0, .int .u64 0, .int .i64 0, .int .i64 0, .int .i64 0, .int .u32 0] := Blk.new w _ _
  have hb0 : Below w.heap.size w (w.alloc (.cells #[.int .u64 0, .int .i64 0, .int .u64 0, .int .i64 0, .int .i64 0, .int .i64 0, .int .u32 0] 32)) := (Below.refl _ _).alloc (Nat.le_refl _) _
  rw [ew0] at hx0 hb0
  have hx1 : Blk (w0.alloc (.cells #[.int .u64 0, .int .i64 0, .int .u64 0, .int .i64 0, .int .i64 0, .int .i64 0, .int .u32 0] 32)) w0.heap.size 32 #[.int .u64 0, .int .i64 0, .int .u64 0, .int .i64 0, .int .i64 0, .int .i64 0, .int .u32 0] := Blk.new w0 _ _
  have hx0 := hx0.alloc (.cells #[.int .u64 0, .int .i64 0, .int .u64 0, .int .i64 0, .int .i64 0, .int .i64 0, .int .u32 0] 32)
  have hb1 : Below w0.heap.size w0 (w0.alloc (.cells #[.int .u64 0, .int .i64 0, .int .u64 0, .int .i64 0, .int .i64 0, .int .i64 0, .int .u32 0] 32)) := (Below.refl _ _).alloc (Nat.le_refl _) _
  rw [ew1] at hx0 hx1 hb1
  have HB := Lh (hb0.trans (hb1.mono hb0.size))
  have HX := Lh hx0
  have HN := Lh hx1
  obtain ⟨p, hp, hB⟩ := ((hP.out.below hb0).below hb1).blk
  have c2 := hB.cell 2
  clear hx0 hx1 hb0 hb1 hB hp
  go_enter Tryz.func28, Tryz.ntmps28
  go_wp2_with (first
    | rw [ew0]
    | rw [ew1]
    | (refine wpl_load_blk rfl 32 (.tmp 5) rfl w0.heap.size 32 #[.int .u64 0, .int .i64 0, .int .u64 0, .int .i64 0, .int .i64 0, .int .i64 0, .int .u32 0] _ rfl HN.out Tryz.underlying32 rfl Tryz.sizeH ?_)
    | (refine wpl_store_blk rfl 32 (.tmp 4) (.tmp 14) rfl w.heap.size 32 #[.int .u64 0, .int .i64 0, .int .u64 0, .int .i64 0, .int .i64 0, .int .i64 0, .int .u32 0] #[.int .u64 0, .int .i64 0, .int .u64 0, .int .i64 0, .int .i64 0, .int .i64 0, .int .u32 0] rfl rfl HX.out rfl Tryz.sizeH rfl ?_; intro w9 hB9 hO9))
  refine bodyPost_ret (v := .agg #[.int .u64 0, .int .i64 0, .int .u64 0, .int .i64 0, .int .i64 0, .int .i64 0, .int .u32 0]) (res_c Tryz.results28 rfl (load_blk hB9.out Tryz.underlying32 rfl Tryz.sizeH)) rfl ?_
  exact ⟨rfl, HB.out.trans (hO9.out.below (Nat.le_refl _))⟩
theorem tk_hd (g : Nat) (A : Option Addr) (n cap : Nat) (bs : List Nat) (S : Option Nat) (w : World) (hP : Hid (PS g A n cap bs S w)) :
    Calls Tryz.prog 28 #[.pointer (some ⟨g, 0, none⟩), .func (.func 29) #[] #[]] w (RetK vHd (tkF (rHd bs) hdZ S) g A n cap bs w) := by
  cases S with
  | some p => exact (wt_hd g A n cap bs p w hP).mono fun e w' h => h.k (fun _ => z_hd _)
  | none => exact (wx_hd g A n cap bs w hP).mono fun e w' h => by obtain ⟨rfl, hb⟩ := h; exact ⟨Keep.below hb, _, rfl, z_hd _, PX.below hP.out hb⟩
set_option maxRecDepth 100000 in
set_option maxHeartbeats 2000000 in
theorem wx_conf (g : Nat) (A : Option Addr) (n cap : Nat) (bs : List Nat) (w : World) (hP : Hid (PX g A n cap bs w)) :
    Calls Tryz.prog 26 #[.pointer (some ⟨g, 0, none⟩), .func (.func 27) #[] #[]] w fun e w' => e = .returned (.agg #[.slice none 0 0, .slice none 0 0]) ∧ Below w.heap.size w w' := by
  obtain ⟨w0, ew0⟩ : ∃ w0, w.alloc (.cells #[.slice none 0 0, .slice none 0 0] 27) = w0 := ⟨_, rfl⟩
  obtain ⟨w1, ew1⟩ : ∃ w1, w0.alloc (.cells #[.slice none 0 0, .slice none 0 0] 27) = w1 := ⟨_, rfl⟩
  have hx0 : Blk (w.alloc (.cells #[.slice none 0 0, .slice none 0 0] 27)) w.heap.size 27 #[.slice none 0 0, .slice none 0 0] := Blk.new w _ _
  have hb0 : Below w.heap.size w (w.alloc (.cells #[.slice none 0 0, .slice none 0 0] 27)) := (Below.refl _ _).alloc (Nat.le_refl _) _
  rw [ew0] at hx0 hb0
  have hx1 : Blk (w0.alloc (.cells #[.slice none 0 0, .slice none 0 0] 27)) w0.heap.size 27 #[.slice none 0 0, .slice none 0 0] := Blk.new w0 _ _
  have hx0 := hx0.alloc (.cells #[.slice none 0 0, .slice none 0 0] 27)
  have hb1 : Below w0.heap.size w0 (w0.alloc (.cells #[.slice none 0 0, .slice none 0 0] 27)) := (Below.refl _ _).alloc (Nat.le_refl _) _
  rw [ew1] at hx0 hx1 hb1
  have HB := Lh (hb0.trans (hb1.mono hb0.size))
  have HX := Lh hx0
  have HN := Lh hx1
  obtain ⟨p, hp, hB⟩ := ((hP.out.below hb0).below hb1).blk
  have c2 := hB.cell 2
  clear hx0 hx1 hb0 hb1 hB hp
  go_enter Tryz.func26, Tryz.ntmps26
  go_wp2_with (first
    | rw [ew0]
    | rw [ew1]
    | (refine wpl_load_blk rfl 27 (.tmp 5) rfl w0.heap.size 27 #[.slice none 0 0, .slice none 0 0] _ rfl HN.out Tryz.underlying27 rfl Tryz.sizeF ?_)
    | (refine wpl_store_blk rfl 27 (.tmp 4) (.tmp 14) rfl w.heap.size 27 #[.slice none 0 0, .slice none 0 0] #[.slice none 0 0, .slice none 0 0] rfl rfl HX.out rfl Tryz.sizeF rfl ?_; intro w9 hB9 hO9))
  refine bodyPost_ret (v := .agg #[.slice none 0 0, .slice none 0 0]) (res_c Tryz.results26 rfl (load_blk hB9.out Tryz.underlying27 rfl Tryz.sizeF)) rfl ?_
  exact ⟨rfl, HB.out.trans (hO9.out.below (Nat.le_refl _))⟩
theorem tk_conf (g : Nat) (A : Option Addr) (n cap : Nat) (bs : List Nat) (S : Option Nat) (w : World) (hP : Hid (PS g A n cap bs S w)) :
    Calls Tryz.prog 26 #[.pointer (some ⟨g, 0, none⟩), .func (.func 27) #[] #[]] w (RetK (vConf w.heap.size) (tkF (rConf bs) ([], []) S) g A n cap bs w) := by
  cases S with
  | some p => exact (wt_conf g A n cap bs p w hP).mono fun e w' h => h.k (fun _ => z_conf _ _)
  | none => exact (wx_conf g A n cap bs w hP).mono fun e w' h => by obtain ⟨rfl, hb⟩ := h; exact ⟨Keep.below hb, _, rfl, z_conf _ _, PX.below hP.out hb⟩
theorem z_ent (lo : Nat) (w : World) : vEnt lo entZ w (.agg #[.int .u64 0, .int .u64 0, .int .i64 0, .int .i64 0, .int .u64 0, .int .u64 0, .string ⟨#[]⟩, .int .i64 0, .int .u32 0, .int .u64 0, .int .u64 0, .int .i64 0, .int .i64 0, .bool false, .int .u64 0, .int .i64 0, .int .u64 0, .int .u64 0, .slice none 0 0, .slice none 0 0, .slice none 0 0]) := ⟨none, 0, none, 0, none, 0, rfl, lst_nil _ _ _, lst_nil _ _ _, lst_nil _ _ _, ⟨by decide, by decide, by decide, ⟨by decide, by decide, by decide, ⟨fun y h => (by cases h), by decide⟩, by decide, by decide, by decide, by decide, by decide, by decide, ⟨by decide, by decide, by decide⟩, by decide, ⟨fun y h => (by cases h), by decide⟩⟩, ⟨fun y h => (by cases h), by decide⟩, ⟨fun y h => (by cases h), by decide⟩⟩⟩
set_option maxRecDepth 100000 in
set_option maxHeartbeats 2000000 in
theorem wx_ent (g : Nat) (A : Option Addr) (n cap : Nat) (bs : List Nat) (w : World) (hP : Hid (PX g A n cap bs w)) :
    Calls Tryz.prog 24 #[.pointer (some ⟨g, 0, none⟩), .func (.func 25) #[] #[]] w fun e w' => e = .returned (.agg #[.int .u64 0, .int .u64 0, .int .i64 0, .int .i64 0, .int .u64 0, .int .u64 0, .string ⟨#[]⟩, .int .i64 0, .int .u32 0, .int .u64 0, .int .u64 0, .int .i64 0, .int .i64 0, .bool false, .int .u64 0, .int .i64 0, .int .u64 0, .int .u64 0, .slice none 0 0, .slice none 0 0, .slice none 0 0]) ∧ Below w.heap.size w w' := by
  obtain ⟨w0, ew0⟩ : ∃ w0, w.alloc (.cells #[.int .u64 0, .int .u64 0, .int .i64 0, .int .i64 0, .int .u64 0, .int .u64 0, .string ⟨#[]⟩, .int .i64 0, .int .u32 0, .int .u64 0, .int .u64 0, .int .i64 0, .int .i64 0, .bool false, .int .u64 0, .int .i64 0, .int .u64 0, .int .u64 0, .slice none 0 0, .slice none 0 0, .slice none 0 0] 86) = w0 := ⟨_, rfl⟩
  obtain ⟨w1, ew1⟩ : ∃ w1, w0.alloc (.cells #[.int .u64 0, .int .u64 0, .int .i64 0, .int .i64 0, .int .u64 0, .int .u64 0, .string ⟨#[]⟩, .int .i64 0, .int .u32 0, .int .u64 0, .int .u64 0, .int .i64 0, .int .i64 0, .bool false, .int .u64 0, .int .i64 0, .int .u64 0, .int .u64 0, .slice none 0 0, .slice none 0 0, .slice none 0 0] 86) = w1 := ⟨_, rfl⟩
  have hx0 : Blk (w.alloc (.cells #[.int .u64 0, .int .u64 0, .int .i64 0, .int .i64 0, .int .u64 0, .int .u64 0, .string ⟨#[]⟩, .int .i64 0, .int .u32 0, .int .u64 0, .int .u64 0, .int .i64 0, .int .i64 0, .bool false, .int .u64 0, .int .i64 0, .int .u64 0, .int .u64 0, .slice none 0 0, .slice none 0 0, .slice none 0 0] 86)) w.heap.size 86 #[.int .u64 0, .int .u64 0, .int .i64 0, .int .i64 0, .int .u64 0, .int .u64 0, .string ⟨#[]⟩, .int .i64 0, .int .u32 0, .int .u64 0, .int .u64 0, .int .i64 0, .int .i64 0, .bool false, .int .u64 0, .int .i64 0, .int .u64 0, .int .u64 0, .slice none 0 0, .slice none 0 0, .slice none 0 0] := Blk.new w _ _
  have hb0 : Below w.heap.size w (w.alloc (.cells #[.int .u64 0, .int .u64 0, .int .i64 0, .int .i64 0, .int .u64 0, .int .u64 0, .string ⟨#[]⟩, .int .i64 0, .int .u32 0, .int .u64 0, .int .u64 0, .int .i64 0, .int .i64 0, .bool false, .int .u64 0, .int .i64 0, .int .u64 0, .int .u64 0, .slice none 0 0, .slice none 0 0, .slice none 0 0] 86)) := (Below.refl _ _).alloc (Nat.le_refl _) _
  rw [ew0] at hx0 hb0
  have hx1 : Blk (w0.alloc (.cells #[.int .u64 0, .int .u64 0, .int .i64 0, .int .i64 0, .int .u64 0, .int .u64 0, .string ⟨#[]⟩, .int .i64 0, .int .u32 0, .int .u64 0, .int .u64 0, .int .i64 0, .int .i64 0, .bool false, .int .u64 0, .int .i64 0, .int .u64 0, .int .u64 0, .slice none 0 0, .slice none 0 0, .slice none 0 0] 86)) w0.heap.size 86 #[.int .u64 0, .int .u64 0, .int .i64 0, .int .i64 0, .int .u64 0, .int .u64 0, .string ⟨#[]⟩, .int .i64 0, .int .u32 0, .int .u64 0, .int .u64 0, .int .i64 0, .int .i64 0, .bool false, .int .u64 0, .int .i64 0, .int .u64 0, .int .u64 0, .slice none 0 0, .slice none 0 0, .slice none 0 0] := Blk.new w0 _ _
  have hx0 := hx0.alloc (.cells #[.int .u64 0, .int .u64 0, .int .i64 0, .int .i64 0, .int .u64 0, .int .u64 0, .string ⟨#[]⟩, .int .i64 0, .int .u32 0, .int .u64 0, .int .u64 0, .int .i64 0, .int .i64 0, .bool false, .int .u64 0, .int .i64 0, .int .u64 0, .int .u64 0, .slice none 0 0, .slice none 0 0, .slice none 0 0] 86)
  have hb1 : Below w0.heap.size w0 (w0.alloc (.cells #[.int .u64 0, .int .u64 0, .int .i64 0, .int .i64 0, .int .u64 0, .int .u64 0, .string ⟨#[]⟩, .int .i64 0, .int .u32 0, .int .u64 0, .int .u64 0, .int .i64 0, .int .i64 0, .bool false, .int .u64 0, .int .i64 0, .int .u64 0, .int .u64 0, .slice none 0 0, .slice none 0 0, .slice none 0 0] 86)) := (Below.refl _ _).alloc (Nat.le_refl _) _
  rw [ew1] at hx0 hx1 hb1
  have HB := Lh (hb0.trans (hb1.mono hb0.size))
  have HX := Lh hx0
  have HN := Lh hx1
  obtain ⟨p, hp, hB⟩ := ((hP.out.below hb0).below hb1).blk
  have c2 := hB.cell 2
  clear hx0 hx1 hb0 hb1 hB hp
  go_enter Tryz.func24, Tryz.ntmps24
  go_wp2_with (first
    | rw [ew0]
    | rw [ew1]
    | (refine wpl_load_blk rfl 86 (.tmp 5) rfl w0.heap.size 86 #[.int .u64 0, .int .u64 0, .int .i64 0, .int .i64 0, .int .u64 0, .int .u64 0, .string ⟨#[]⟩, .int .i64 0, .int .u32 0, .int .u64 0, .int .u64 0, .int .i64 0, .int .i64 0, .bool false, .int .u64 0, .int .i64 0, .int .u64 0, .int .u64 0, .slice none 0 0, .slice none 0 0, .slice none 0 0] _ rfl HN.out Tryz.underlying86 rfl Tryz.sizeE ?_)
    | (refine wpl_store_blk rfl 86 (.tmp 4) (.tmp 14) rfl w.heap.size 86 #[.int .u64 0, .int .u64 0, .int .i64 0, .int .i64 0, .int .u64 0, .int .u64 0, .string ⟨#[]⟩, .int .i64 0, .int .u32 0, .int .u64 0, .int .u64 0, .int .i64 0, .int .i64 0, .bool false, .int .u64 0, .int .i64 0, .int .u64 0, .int .u64 0, .slice none 0 0, .slice none 0 0, .slice none 0 0] #[.int .u64 0, .int .u64 0, .int .i64 0, .int .i64 0, .int .u64 0, .int .u64 0, .string ⟨#[]⟩, .int .i64 0, .int .u32 0, .int .u64 0, .int .u64 0, .int .i64 0, .int .i64 0, .bool false, .int .u64 0, .int .i64 0, .int .u64 0, .int .u64 0, .slice none 0 0, .slice none 0 0, .slice none 0 0] rfl rfl HX.out rfl Tryz.sizeE rfl ?_; intro w9 hB9 hO9))
  refine bodyPost_ret (v := .agg #[.int .u64 0, .int .u64 0, .int .i64 0, .int .i64 0, .int .u64 0, .int .u64 0, .string ⟨#[]⟩, .int .i64 0, .int .u32 0, .int .u64 0, .int .u64 0, .int .i64 0, .int .i64 0, .bool false, .int .u64 0, .int .i64 0, .int .u64 0, .int .u64 0, .slice none 0 0, .slice none 0 0, .slice none 0 0]) (res_c Tryz.results24 rfl (load_blk hB9.out Tryz.underlying86 rfl Tryz.sizeE)) rfl ?_
  exact ⟨rfl, HB.out.trans (hO9.out.below (Nat.le_refl _))⟩
theorem tk_ent (g : Nat) (A : Option Addr) (n cap : Nat) (bs : List Nat) (S : Option Nat) (w : World) (hP : Hid (PS g A n cap bs S w)) :
    Calls Tryz.prog 24 #[.pointer (some ⟨g, 0, none⟩), .func (.func 25) #[] #[]] w (RetK (vEnt w.heap.size) (tkF (rEnt bs) entZ S) g A n cap bs w) := by
  cases S with
  | some p => exact (wt_ent g A n cap bs p w hP).mono fun e w' h => h.k (fun _ => z_ent _ _)
  | none => exact (wx_ent g A n cap bs w hP).mono fun e w' h => by obtain ⟨rfl, hb⟩ := h; exact ⟨Keep.below hb, _, rfl, z_ent _ _, PX.below hP.out hb⟩
set_option maxRecDepth 100000 in
set_option maxHeartbeats 2000000 in
theorem pb_bytes (g : Nat) (A : Option Addr) (n cap : Nat) (bs : List Nat) (S : Option Nat) (w : World) (hP : Hid (PS g A n cap bs S w)) :
    Calls Tryz.prog 30 #[.pointer (some ⟨g, 0, none⟩)] w (RetK vByt (tkF (rText bs) [] S) g A n cap bs w) := by
  have HC := Lh (tk_bytes g A n cap bs S w hP)
  go_enter Tryz.func30, Tryz.ntmps30
  go_wp2_with (go_at_call 48; refine HC.out.mono ?_; rintro e w' ⟨hk, v, rfl, hv, hp⟩; have HH := Lh (And.intro hk (And.intro hv hp)); clear hk hv hp)
  go_ret
  exact ⟨HH.out.1, _, rfl, HH.out.2.1, HH.out.2.2⟩
def vCnt (x : Nat) (_ : World) (v : Value) : Prop := v = .int .i64 (x : Int) ∧ x ≤ 1048576
def rCnt (bs : List Nat) : Rd Nat := (rNum bs).bind fun x p => if 1048576 < x ∨ bs.length - p < x then none else some (x, p)
theorem rList_cnt {α : Type} (bs : List Nat) (one : Rd α) : rList bs one = (rCnt bs).bind fun x => rTimes one x := by
  funext p
  unfold rList rCnt Rd.bind
  cases rNum bs p with
  | none => rfl
  | some y =>
    obtain ⟨x, q⟩ := y
    simp only
    split <;> rfl
set_option maxRecDepth 100000 in
set_option maxHeartbeats 2000000 in
theorem pb_count (g : Nat) (A : Option Addr) (n cap : Nat) (bs : List Nat) (S : Option Nat) (w : World) (hP : Hid (PS g A n cap bs S w)) :
    Calls Tryz.prog 23 #[.pointer (some ⟨g, 0, none⟩)] w (RetK vCnt (tkF (rCnt bs) 0 S) g A n cap bs w) := by
  have HC := Lh (tk_num g A n cap bs S w hP)
  have HE := Lh (show (tkF (rNum bs) 0 S).2 = none → tkF (rCnt bs) 0 S = (0, none) ∧ (tkF (rNum bs) 0 S).1 = 0 from by
    intro h
    cases S with
    | none => exact ⟨rfl, rfl⟩
    | some p =>
      cases e : rNum bs p with
      | none => rw [tkF_none e]; exact ⟨tkF_none (by unfold rCnt Rd.bind; rw [e]), rfl⟩
      | some y => obtain ⟨x, q⟩ := y; rw [tkF_some e] at h; cases h)
  have HS := Lh (show ∀ q, (tkF (rNum bs) 0 S).2 = some q → tkF (rCnt bs) 0 S = if 1048576 < (tkF (rNum bs) 0 S).1 ∨ n - q < (tkF (rNum bs) 0 S).1 then (0, none) else ((tkF (rNum bs) 0 S).1, some q) from by
    intro q h
    rw [← hP.out.inb.len]
    cases S with
    | none => cases h
    | some p =>
      cases e : rNum bs p with
      | none => rw [tkF_none e] at h; cases h
      | some y =>
        obtain ⟨x, q'⟩ := y
        rw [tkF_some e] at h ⊢
        cases h
        by_cases hc : 1048576 < x ∨ bs.length - q < x
        · rw [if_pos hc]; exact tkF_none (by unfold rCnt Rd.bind; rw [e]; exact if_pos hc)
        · rw [if_neg hc]; exact tkF_some (by unfold rCnt Rd.bind; rw [e]; exact if_neg hc))
  have hn9 := hP.out.inb.reach
  generalize tkF (rNum bs) 0 S = y at *
  obtain ⟨x, T⟩ := y
  cases T with
  | none =>
    obtain ⟨e1, e2⟩ := HE.out rfl
    simp only at e2
    subst e2
    have HE1 := Lh e1
    clear HS HE e1
    go_enter Tryz.func23, Tryz.ntmps23
    go_wp2_with (go_at_call 19; refine HC.out.mono ?_; rintro e w' ⟨hk, v, rfl, ⟨rfl, hv⟩, hp⟩; obtain ⟨p, hpn, hB⟩ := PX.blk hp; have c0 := hB.cell 0; have c1 := hB.cell 1; have HH := Lh (And.intro hk hp); have hp2 := PX.inb hp; clear hk hv hp hB)
    obtain ⟨d, ed⟩ : ∃ d, n - p = d := ⟨_, rfl⟩
    have e1 : IntKind.i64.wrap ((n : Int) - (p : Int)) = (d : Int) := by rw [IntKind.wrap_i64]; omega
    have e2 : IntKind.u64.wrap (d : Int) = (d : Int) := by rw [IntKind.wrap_u64]; omega
    have d3 : decide ((0 : Int) > (d : Int)) = false := decide_eq_false (by omega)
    have d4 : decide ((d : Int) < 0) = false := decide_eq_false (by omega)
    clear ed hp2 hpn hn9
    go_region
    go_wp2
    go_ret
    rw [HE1.out]
    exact ⟨HH.out.1.trans keep_drew, _, rfl, ⟨rfl, by decide⟩, PX.drew HH.out.2⟩
  | some q =>
    have hq := HS.out q rfl
    simp only at hq
    clear HS HE
    by_cases h1 : 1048576 < x
    · rw [if_pos (.inl h1)] at hq
      have HQ := Lh hq
      have d1 : decide ((x : Int) > 1048576) = true := decide_eq_true (by omega)
      have d2 : decide (1048576 < x) = true := decide_eq_true h1
      clear h1 hq hn9
      go_enter Tryz.func23, Tryz.ntmps23
      go_wp2_with (go_at_call 19; refine HC.out.mono ?_; rintro e w' ⟨hk, v, rfl, ⟨rfl, hv⟩, hp⟩; have hB := PW.blk hp; have c0 := hB.cell 0; have c1 := hB.cell 1; have c2 := hB.cell 2; have f2 := hB.frozen 2; have HF := Lh (PW.fail (PW.drew hp)); have HH := Lh hk; clear hk hv hp hB)
      go_region
      go_wp2
      go_ret
      rw [HQ.out]
      exact ⟨(HH.out.trans keep_drew).trans HF.out.2, _, rfl, ⟨rfl, by decide⟩, HF.out.1⟩
    · have d1 : decide ((x : Int) > 1048576) = false := decide_eq_false (by omega)
      have d2 : decide (1048576 < x) = false := decide_eq_false h1
      have hx1 : x ≤ 1048576 := by omega
      by_cases h2 : n - q < x
      · rw [if_pos (.inr h2)] at hq
        have HQ := Lh hq
        clear hq
        go_enter Tryz.func23, Tryz.ntmps23
        go_wp2_with (go_at_call 19; refine HC.out.mono ?_; rintro e w' ⟨hk, v, rfl, ⟨rfl, hv⟩, hp⟩; have hB := PW.blk hp; have hpl := PW.pl hp; have c0 := hB.cell 0; have c1 := hB.cell 1; have c2 := hB.cell 2; have f2 := hB.frozen 2; have HF := Lh (PW.fail (PW.drew hp)); have HH := Lh hk; clear hk hv hp hB)
        obtain ⟨d, ed⟩ : ∃ d, n - q = d := ⟨_, rfl⟩
        have e1 : IntKind.i64.wrap ((n : Int) - (q : Int)) = (d : Int) := by rw [IntKind.wrap_i64]; omega
        have e2 : IntKind.u64.wrap (d : Int) = (d : Int) := by rw [IntKind.wrap_u64]; omega
        have d3 : decide ((x : Int) > (d : Int)) = true := decide_eq_true (by omega)
        have d4 : decide (d < x) = true := decide_eq_true (by omega)
        clear ed hpl h1 h2 hx1 hn9
        go_region
        go_wp2
        go_ret
        rw [HQ.out]
        exact ⟨(HH.out.trans keep_drew).trans HF.out.2, _, rfl, ⟨rfl, by decide⟩, HF.out.1⟩
      · rw [if_neg (by omega)] at hq
        have HQ := Lh hq
        have HX := Lh hx1
        clear hq
        go_enter Tryz.func23, Tryz.ntmps23
        go_wp2_with (go_at_call 19; refine HC.out.mono ?_; rintro e w' ⟨hk, v, rfl, ⟨rfl, hv⟩, hp⟩; have hB := PW.blk hp; have hpl := PW.pl hp; have c0 := hB.cell 0; have c1 := hB.cell 1; have HF := Lh hp; have HH := Lh hk; clear hk hv hp hB)
        obtain ⟨d, ed⟩ : ∃ d, n - q = d := ⟨_, rfl⟩
        have e1 : IntKind.i64.wrap ((n : Int) - (q : Int)) = (d : Int) := by rw [IntKind.wrap_i64]; omega
        have e2 : IntKind.u64.wrap (d : Int) = (d : Int) := by rw [IntKind.wrap_u64]; omega
        have e3 : IntKind.i64.wrap (x : Int) = (x : Int) := by rw [IntKind.wrap_i64]; omega
        have d3 : decide ((x : Int) > (d : Int)) = false := decide_eq_false (by omega)
        have d4 : decide (d < x) = false := decide_eq_false (by omega)
        clear ed hpl h1 h2 hx1 hn9
        go_region
        go_wp2
        go_ret
        rw [HQ.out]
        exact ⟨HH.out.trans keep_drew, _, rfl, ⟨rfl, HX.out⟩, PW.drew HF.out⟩
end Go.Proofs.YtijdbdenmcjmmaaGreatDoor
end
section
namespace Go.Proofs.YtijdbdenmcjmmaaGreatDoor
open Go.RowKit
set_option linter.unusedVariables false
theorem Reads.first {w : World} {B n : Nat} {A : Option Addr} {xs : List Value} (h : Reads w B 1 A n xs) {k : Nat} (hk : k ≤ n) : Reads w B 1 A k (xs.take k) := by
  have hl : xs.length = n := by simpa using h.1
  refine ⟨by rw [List.length_take]; omega, fun h0 => ?_⟩
  obtain ⟨ad, rfl, hb, hc⟩ := h.2 (by omega)
  refine ⟨ad, rfl, hb, fun j u hu => hc j u ?_⟩
  rcases Nat.lt_or_ge j k with hj | hj
  · rw [List.getElem?_take_of_lt hj] at hu; exact hu
  · rw [List.getElem?_eq_none (by rw [List.length_take]; omega)] at hu; cases hu
end Go.Proofs.YtijdbdenmcjmmaaGreatDoor
end
section
namespace Go.Proofs.YtijdbdenmcjmmaaGreatDoor
open Go.RowKit OctMath
set_option linter.unusedVariables false
set_option linter.unusedSimpArgs false
def RdB (w : World) (A : Option Addr) (l cap : Nat) (xs : List Nat) : Prop := Reads w w.heap.size 1 A l (xs.map bv) ∧ Byt xs ∧ l ≤ cap ∧ cap ≤ maxLen
theorem RdB.later {w w' : World} {A : Option Addr} {l cap : Nat} {xs : List Nat} (h : RdB w A l cap xs) (hb : Below w.heap.size w w') : RdB w' A l cap xs := ⟨h.1.later hb, h.2⟩
theorem RdB.len {w : World} {A : Option Addr} {l cap : Nat} {xs : List Nat} (h : RdB w A l cap xs) : xs.length = l := by simpa using h.1.1
end Go.Proofs.YtijdbdenmcjmmaaGreatDoor
end
section
namespace Go.Proofs.YtijdbdenmcjmmaaGreatDoor
open Go.RowKit OctMath
set_option linter.unusedVariables false
set_option linter.unusedSimpArgs false
theorem own_below {w w' : World} {base size n : Nat} {t : TypeId} {v : Value} {xs : List Value} (h : w.ownsRow base t size v n xs) (hb : Below w.heap.size w w') : w'.ownsRow base t size v n xs := by
  obtain ⟨hl, h0⟩ := h
  refine ⟨hl, ?_⟩
  rcases h0 with h0 | ⟨g, cap, cur, rfl, h1, h2, h3⟩
  · exact .inl h0
  · have hlt : g < w.heap.size := by
      rcases Nat.lt_or_ge g w.heap.size with h | h
      · exact h
      · rw [Array.getElem?_eq_none h] at h2; cases h2
    exact .inr ⟨g, cap, cur, rfl, h1, (hb.block g hlt).trans h2, h3⟩
end Go.Proofs.YtijdbdenmcjmmaaGreatDoor
end
section
namespace Go.Proofs.YtijdbdenmcjmmaaGreatDoor
open Go.RowKit
set_option linter.unusedVariables false
theorem load_at {P : Program} {w : World} {p : Addr} {ty : TypeId} {cs : List Value} {d : TypeDesc} (hc : ∀ j v, cs[j]? = some v → w.cell? (p.add j) = some v) (hu : P.underlying ty = some d) (hd : d.isRow = true) (hi : (P.info? ty).map (·.size) = some cs.length) :
    (loadVar ty p).run P w = .ok (.agg cs.toArray) w := by
  have hl : (loadCells p cs.length).run P w = .ok cs.toArray w := run_loadCells_list (P := P) w p cs hc
  cases hq : P.info? ty with
  | none => simp [hq] at hi
  | some i =>
    have hs : i.size = cs.length := by simpa [hq] using hi
    have hagg : (isAgg ty).run P w = .ok true w := by
      unfold isAgg
      rw [Sem.run_bind, run_underlying hu w]
      cases d <;> simp_all
    simp [loadVar, Sem.run_bind, hagg, sizeOf, typeInfo, hq, hs, hl]
theorem wpl_load_at {P : Program} {ops : Array Oper} {rest : List Oper} {op : Oper} {a : Act} {w : World} {Q : Exit → Act → World → Prop} (hgd : op.guard = none) (ty : TypeId) (x : Operand) (ho : op.op = .load ty x)
    (p : Addr) (cs : List Value) (d : TypeDesc) (hx : a.eval x = .pointer (some p)) (hc : ∀ j v, cs[j]? = some v → w.cell? (p.add j) = some v) (hu : P.underlying ty = some d) (hd : d.isRow = true) (hi : (P.info? ty).map (·.size) = some cs.length)
    (h : wpList P ops Q rest (a.put op.dst (.agg cs.toArray)) w) : wpList P ops Q (op :: rest) a w := by
  refine wpList_plain hgd fun K hK => ?_
  unfold Oper.wp execOp
  simp only [ho, hx, Instr.loadAt, Instr.sureAddr, Sem.run_bind, Sem.run_pure, Result.andThen_ok, load_at hc hu hd hi]
  exact hK _ _ h
theorem yields_load_at {P : Program} {ops : Array Oper} {S : World → Prop} {op : Oper} {a : Act} (hw : Region.wanted op (yielded ops a.tmps) = true) (ty : TypeId) (x : Operand) (ho : op.op = .load ty x)
    (p : Addr) (cs : List Value) (d : TypeDesc) (hx : a.eval x = .pointer (some p)) (hS : ∀ w, S w → ∀ j v, cs[j]? = some v → w.cell? (p.add j) = some v) (hu : P.underlying ty = some d) (hd : d.isRow = true) (hi : (P.info? ty).map (·.size) = some cs.length) :
    YieldsIf P ops S op (.agg cs.toArray) a :=
  .inl ⟨hw, fun w hw' => by
    unfold execOp
    simp only [ho, hx, Instr.loadAt, Instr.sureAddr, Sem.run_bind, Sem.run_pure, Result.andThen_ok, load_at (hS w hw') hu hd hi]⟩
theorem fill_one {cs z : Array Value} (h0 : 0 < cs.size) (h : z.size = cs.size) : Instr.fill (fun i => some (i * cs.size, cs.size)) z [(0, .agg cs)] = some cs := by
  obtain ⟨r, h1, h2, h3⟩ := Great.fill_dense h0 [.agg cs] 0 z (fun v hv => by rw [List.mem_singleton.1 hv]; rfl) (by simp [h])
  have e : r = cs := by
    apply Array.ext_getElem?
    intro k
    rw [h3 k]
    by_cases hk : k < cs.size
    · rw [if_pos (by simpa using hk), Nat.div_eq_of_lt hk, Nat.mod_eq_of_lt hk]
      rfl
    · rw [if_neg (by simpa using hk), Array.getElem?_eq_none (by omega), Array.getElem?_eq_none (by omega)]
  rw [e] at h1
  exact h1
theorem wp_build1g {P : Program} {op : Oper} {a : Act} {w : World} {K : Act → World → Prop} {Q : Exit → Act → World → Prop} (S E : TypeId) (x : Operand) (ho : op.op = .buildSlice S 1 #[(0, x)]) (k : Nat) (hk : 0 < k) (hk2 : k ≤ 1000) (cs : Array Value) (hcs : cs.size = k) (hx : a.eval x = .agg cs)
    (hu : P.underlying S = some (.slice E)) (hi : (P.info? E).map (fun i => (i.zero.map (·.cells.size), i.size)) = some (some k, k))
    (h : K (a.put op.dst (.slice (some ⟨w.heap.size, 0, none⟩) 1 1)) (w.alloc (.cells cs E))) : op.wp P a w K Q := by
  cases q1 : P.info? E with
  | none => rw [q1] at hi; cases hi
  | some ii =>
    rw [q1] at hi
    simp only [Option.map_some, Option.some.injEq, Prod.mk.injEq] at hi
    obtain ⟨hz, q3⟩ := hi
    obtain ⟨z, q2, hzs⟩ := Option.map_eq_some_iff.1 hz
    have hzs : z.cells.size = k := hzs
    refine wp_buildSlice S E 1 #[(0, x)] ho cs ii z hu q1 q2 (by rw [q3]; omega) (by rw [q3]; omega) ?_ h
    rw [q3]
    have e1 : ((#[(0, x)] : Array (Nat × Operand)).map fun (i, x) => (i, a.eval x)).toList = [(0, Value.agg cs)] := by simp [hx]
    rw [e1, ← hcs]
    exact fill_one (by omega) (by simp [hcs])
theorem wpl_build1g {P : Program} {ops : Array Oper} {rest : List Oper} {op : Oper} {a : Act} {w : World} {Q : Exit → Act → World → Prop} (hgd : op.guard = none) (S E : TypeId) (x : Operand) (ho : op.op = .buildSlice S 1 #[(0, x)]) (k : Nat) (hk : 0 < k) (hk2 : k ≤ 1000) (cs : Array Value) (hcs : cs.size = k) (hx : a.eval x = .agg cs)
    (hu : P.underlying S = some (.slice E)) (hi : (P.info? E).map (fun i => (i.zero.map (·.cells.size), i.size)) = some (some k, k))
    (h : wpList P ops Q rest (a.put op.dst (.slice (some ⟨w.heap.size, 0, none⟩) 1 1)) (w.alloc (.cells cs E))) : wpList P ops Q (op :: rest) a w :=
  wpList_plain hgd fun _ hK => wp_build1g S E x ho k hk hk2 cs hcs hx hu hi (hK _ _ h)
theorem flat_get {α β : Type} {cells : α → List β} {size : Nat} (hl : ∀ a, (cells a).length = size) : ∀ (l : List α) (i : Nat) (hi : i < l.length) (j : Nat), j < size → (l.flatMap cells)[i * size + j]? = (cells l[i])[j]?
  | [], i, hi, _, _ => by simp at hi
  | p :: l, i, hi, j, hj => by
    rw [List.flatMap_cons]
    cases i with
    | zero => rw [Nat.zero_mul, Nat.zero_add, List.getElem?_append_left (by rw [hl]; exact hj)]; rfl
    | succ i =>
      rw [List.getElem?_append_right (by rw [hl, Nat.succ_mul]; omega), hl, show (i + 1) * size + j - size = i * size + j by rw [Nat.succ_mul]; omega]
      exact flat_get hl l i (by simpa using hi) j hj
/-! ### A struct in the middle of a block -/
def setL (cs : Array Value) (o : Nat) : List Value → Array Value
  | [] => cs
  | v :: vs => setL (cs.setIfInBounds o v) (o + 1) vs
theorem setCells_part (g : Nat) (t : TypeId) : ∀ (vs : List Value) (o : Nat) (w : World) (cs : Array Value), Blk w g t cs → Blk (w.setCells g o vs) g t (setL cs o vs) ∧ Only g w (w.setCells g o vs)
  | [], _, w, _, h => ⟨h, Only.refl _ _⟩
  | v :: vs, o, w, cs, h => by
    have := setCells_part g t vs (o + 1) (w.setCell ⟨g, o, none⟩ v) (cs.setIfInBounds o v) (h.set_ o v)
    exact ⟨this.1, (Only.set_ w g o v).trans this.2⟩
theorem wpl_store_part {P : Program} {ops : Array Oper} {rest : List Oper} {op : Oper} {a : Act} {w : World} {Q : Exit → Act → World → Prop} (hgd : op.guard = none) (ty : TypeId) (x y : Operand) (ho : op.op = .store ty x y) (g o : Nat) (t : TypeId) (cs cs' vs : Array Value) (hx : a.eval x = .pointer (some ⟨g, o, none⟩)) (hy : a.eval y = .agg vs)
    (hB : Blk w g t cs) (hs : o + vs.size ≤ cs.size) (he : setL cs o vs.toList = cs') (hi : (P.info? ty).map (·.size) = some vs.size) (h1 : vs.toList.all (·.oneCell') = true) (h : ∀ w', Hid (Blk w' g t cs') → Hid (Only g w w') → wpList P ops Q rest (a.put op.dst undef) w') : wpList P ops Q (op :: rest) a w := by
  have e := setCells_part g t vs.toList o w cs hB
  rw [he] at e
  refine wpList_plain hgd fun _ hK => wp_store_mid ty x y ho g o vs hx hy (fun j hj => ?_) hi (Array.all_eq_true_iff_forall_mem.2 (fun v hv => List.all_eq_true.1 h1 v (by simpa using hv))) (hK _ _ (h _ (Lh e.1) (Lh e.2)))
  rw [hB.cell]
  exact ⟨by rw [Array.getElem?_eq_getElem (by omega)]; rfl, hB.frozen _⟩
end Go.Proofs.YtijdbdenmcjmmaaGreatDoor
end
