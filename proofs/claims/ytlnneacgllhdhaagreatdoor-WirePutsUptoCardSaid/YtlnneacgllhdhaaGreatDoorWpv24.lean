/-
  wire.page: took, bytes, count, as functions of the page's state. (printed by gen_wirt3.py); More words for rows of bytes: a part of a row; opened, next: bytes whose sum stands behind them; a frame at the head of a stream. (joined out of WirT3, Lib2, WirF2 by shake.py)
-/
import Derived.Test.YtlnneacgllhdhaaGreatDoorWpv23
import Derived.Test.YtlnneacgllhdhaaGreatDoorWpv21
import Derived.Test.YtlnneacgllhdhaaGreatDoorWpv01
import Derived.Test.YtlnneacgllhdhaaGreatDoorWpv04
section
namespace Go.Proofs.YtlnneacgllhdhaaGreatDoor
open Go.RowKit OctMath
set_option linter.unusedVariables false
set_option linter.unusedSimpArgs false
def PS (g : Nat) (A : Option Addr) (n cap : Nat) (bs : List Nat) : Option Nat → World → Prop
  | some p => PW g A n cap bs p
  | none => PX g A n cap bs
def tkF {α : Type} (r : Rd α) (x0 : α) : Option Nat → α × Option Nat
  | some p => match r p with
    | some (x, q) => (x, some q)
    | none => (x0, none)
  | none => (x0, none)
theorem tkF_bind {α β : Type} (r : Rd α) (k : α → Rd β) (x0 : α) (S : Option Nat) : S.bind (r.bind k) = (tkF r x0 S).2.bind (k (tkF r x0 S).1) := by
  cases S with
  | none => rfl
  | some p =>
    show (match r p with | some (x, q) => k x q | none => none) = _
    unfold tkF
    simp only
    cases r p with
    | none => rfl
    | some y => rfl
theorem tkF_none {α : Type} {r : Rd α} {x0 : α} {p : Nat} (e : r p = none) : tkF r x0 (some p) = (x0, none) := by simp only [tkF, e]
theorem tkF_some {α : Type} {r : Rd α} {x0 x : α} {p q : Nat} (e : r p = some (x, q)) : tkF r x0 (some p) = (x, some q) := by simp only [tkF, e]
theorem tkF_back {α : Type} {r : Rd α} {x0 : α} {S : Option Nat} (h : (tkF r x0 S).2 ≠ none) : S ≠ none := by
  intro e; subst e; exact h rfl
def RetK {α : Type} (val : α → World → Value → Prop) (y : α × Option Nat) (g : Nat) (A : Option Addr) (n cap : Nat) (bs : List Nat) (w : World) (e : Ending) (w' : World) : Prop := Keep (Not g) w w' ∧ ∃ v, e = .returned v ∧ val y.1 w' v ∧ PS g A n cap bs y.2 w'
theorem RetT.k {α : Type} {r : Rd α} {val : α → World → Value → Prop} {z : Value} {g : Nat} {A : Option Addr} {n cap p : Nat} {bs : List Nat} {w w' : World} {e : Ending} {x0 : α} (hz : ∀ w, val x0 w z) (h : RetT (r p) val z g A n cap bs w e w') : RetK val (tkF r x0 (some p)) g A n cap bs w e w' := by
  obtain ⟨k, h⟩ := h
  cases e1 : r p with
  | none =>
    rw [e1] at h
    rw [tkF_none e1]
    exact ⟨k, _, h.1, hz _, h.2⟩
  | some y =>
    obtain ⟨x, q⟩ := y
    rw [e1] at h
    rw [tkF_some e1]
    obtain ⟨v, e2, hv, hp⟩ := h
    exact ⟨k, v, e2, hv, hp⟩
theorem PX.below {g : Nat} {A : Option Addr} {n cap : Nat} {bs : List Nat} {w w' : World} (h : PX g A n cap bs w) (k : Below w.heap.size w w') : PX g A n cap bs w' :=
  ⟨by obtain ⟨p, hp, hB⟩ := h.blk; exact ⟨p, hp, (Keep.below (H := fun _ => True) k).blk hB trivial⟩, h.inb.keep (Keep.below k) h.ne, h.ne⟩
theorem PX.drew {g : Nat} {A : Option Addr} {n cap : Nat} {bs : List Nat} {w : World} (h : PX g A n cap bs w) : PX g A n cap bs w.drew := ⟨h.blk, h.inb.drew, h.ne⟩
theorem PS.below {g : Nat} {A : Option Addr} {n cap : Nat} {bs : List Nat} {S : Option Nat} {w w' : World} (h : PS g A n cap bs S w) (k : Below w.heap.size w w') : PS g A n cap bs S w' := by
  cases S with
  | none => exact PX.below h k
  | some p => exact PW.below h k
theorem PS.drew {g : Nat} {A : Option Addr} {n cap : Nat} {bs : List Nat} {S : Option Nat} {w : World} (h : PS g A n cap bs S w) : PS g A n cap bs S w.drew := by
  cases S with
  | none => exact PX.drew h
  | some p => exact PW.drew h
theorem PS.only {g : Nat} {A : Option Addr} {n cap : Nat} {bs : List Nat} {S : Option Nat} {w w' : World} {y : Nat} (h : PS g A n cap bs S w) (k : Only y w w') (hy : y ≠ g) (hne : 0 < n → ∀ ad, A = some ad → Not y ad.block) : PS g A n cap bs S w' := by
  cases S with
  | none => exact PX.only h k hy hne
  | some p => exact PW.only h k hy hne
theorem PS.cells {g : Nat} {A : Option Addr} {n cap : Nat} {bs : List Nat} {S : Option Nat} {w : World} (h : PS g A n cap bs S w) : ∃ (p : Nat) (er : Value), p ≤ n ∧ Blk w g 109 #[.slice A n cap, .int .i64 (p : Int), er] ∧ (S = some p ∧ er = .nilIface ∨ S = none ∧ er = .iface 125 (.int .i64 50)) := by
  cases S with
  | none => obtain ⟨p, hp, hB⟩ := PX.blk h; exact ⟨p, _, hp, hB, .inr ⟨rfl, rfl⟩⟩
  | some p => exact ⟨p, _, PW.pl h, PW.blk h, .inl ⟨rfl, rfl⟩⟩
theorem PS.lt {g : Nat} {A : Option Addr} {n cap : Nat} {bs : List Nat} {S : Option Nat} {w : World} (h : PS g A n cap bs S w) : g < w.heap.size := by
  obtain ⟨p, er, -, hB, -⟩ := h.cells
  exact hB.lt
theorem PS.inb {g : Nat} {A : Option Addr} {n cap : Nat} {bs : List Nat} {S : Option Nat} {w : World} (h : PS g A n cap bs S w) : InB w A n cap bs := by
  cases S with
  | none => exact PX.inb h
  | some p => exact PW.inb h
def hdZ : HdT := ⟨⟨0, 0, 0⟩, 0, 0, 0, 0⟩
def entZ : EntT := ⟨0, 0, 0, ⟨0, 0, 0, [], 0, 0, 0, 0, 0, 0, false, ⟨0, 0, 0⟩, 0, []⟩, [], []⟩
theorem z_hd (w : World) : vHd hdZ w (.agg #[.int .u64 0, .int .i64 0, .int .u64 0, .int .i64 0, .int .i64 0, .int .i64 0, .int .u32 0]) := ⟨rfl, by constructor <;> decide⟩
theorem z_conf (lo : Nat) (w : World) : vConf lo ([], []) w (.agg #[.slice none 0 0, .slice none 0 0]) := ⟨none, 0, none, 0, rfl, lst_nil _ _ _, lst_nil _ _ _, ⟨fun y h => (by cases h), by decide⟩, ⟨fun y h => (by cases h), by decide⟩⟩
theorem z_int (w : World) : vI64 0 w (.int .i64 0) := ⟨rfl, by decide, by decide⟩
theorem z_num (w : World) : vU64 0 w (.int .u64 0) := ⟨rfl, by decide⟩
theorem z_byt (w : World) : vByt [] w (.slice none 0 0) := ⟨none, 0, rfl, Reads.none_, Nat.le_refl _, by decide, fun y h => (by cases h), by decide⟩
set_option maxRecDepth 100000 in
set_option maxHeartbeats 2000000 in
theorem wx_int (g : Nat) (A : Option Addr) (n cap : Nat) (bs : List Nat) (w : World) (hP : Hid (PX g A n cap bs w)) :
    Calls Tryz.prog 43 #[.pointer (some ⟨g, 0, none⟩), .func (.func 44) #[] #[]] w fun e w' => e = .returned (.int .i64 0) ∧ w' = w := by
  obtain ⟨p, hp, hB⟩ := hP.out.blk
  have c2 := hB.cell 2
  clear hB hp
  go_enter Tryz.func43, Tryz.ntmps43
  go_wp2
  go_ret
  exact ⟨rfl, rfl⟩
theorem tk_int (g : Nat) (A : Option Addr) (n cap : Nat) (bs : List Nat) (S : Option Nat) (w : World) (hP : Hid (PS g A n cap bs S w)) :
    Calls Tryz.prog 43 #[.pointer (some ⟨g, 0, none⟩), .func (.func 44) #[] #[]] w (RetK vI64 (tkF (rInt bs) (0 : Int) S) g A n cap bs w) := by
  cases S with
  | some p => exact (wt_int g A n cap bs p w hP).mono fun e w' h => h.k (fun _ => z_int _)
  | none => exact (wx_int g A n cap bs w hP).mono fun e w' h => by obtain ⟨rfl, rfl⟩ := h; exact ⟨Keep.refl _ _, _, rfl, z_int _, hP.out⟩
set_option maxRecDepth 100000 in
set_option maxHeartbeats 2000000 in
theorem wx_num (g : Nat) (A : Option Addr) (n cap : Nat) (bs : List Nat) (w : World) (hP : Hid (PX g A n cap bs w)) :
    Calls Tryz.prog 45 #[.pointer (some ⟨g, 0, none⟩), .func (.func 46) #[] #[]] w fun e w' => e = .returned (.int .u64 0) ∧ w' = w := by
  obtain ⟨p, hp, hB⟩ := hP.out.blk
  have c2 := hB.cell 2
  clear hB hp
  go_enter Tryz.func45, Tryz.ntmps45
  go_wp2
  go_ret
  exact ⟨rfl, rfl⟩
theorem tk_num (g : Nat) (A : Option Addr) (n cap : Nat) (bs : List Nat) (S : Option Nat) (w : World) (hP : Hid (PS g A n cap bs S w)) :
    Calls Tryz.prog 45 #[.pointer (some ⟨g, 0, none⟩), .func (.func 46) #[] #[]] w (RetK vU64 (tkF (rNum bs) (0 : Nat) S) g A n cap bs w) := by
  cases S with
  | some p => exact (wt_num g A n cap bs p w hP).mono fun e w' h => h.k (fun _ => z_num _)
  | none => exact (wx_num g A n cap bs w hP).mono fun e w' h => by obtain ⟨rfl, rfl⟩ := h; exact ⟨Keep.refl _ _, _, rfl, z_num _, hP.out⟩
set_option maxRecDepth 100000 in
set_option maxHeartbeats 2000000 in
theorem wx_flag (g : Nat) (A : Option Addr) (n cap : Nat) (bs : List Nat) (w : World) (hP : Hid (PX g A n cap bs w)) :
    Calls Tryz.prog 47 #[.pointer (some ⟨g, 0, none⟩), .func (.func 48) #[] #[]] w fun e w' => e = .returned (.bool false) ∧ w' = w := by
  obtain ⟨p, hp, hB⟩ := hP.out.blk
  have c2 := hB.cell 2
  clear hB hp
  go_enter Tryz.func47, Tryz.ntmps47
  go_wp2
  go_ret
  exact ⟨rfl, rfl⟩
theorem tk_flag (g : Nat) (A : Option Addr) (n cap : Nat) (bs : List Nat) (S : Option Nat) (w : World) (hP : Hid (PS g A n cap bs S w)) :
    Calls Tryz.prog 47 #[.pointer (some ⟨g, 0, none⟩), .func (.func 48) #[] #[]] w (RetK vBool (tkF (rFlag bs) false S) g A n cap bs w) := by
  cases S with
  | some p => exact (wt_flag g A n cap bs p w hP).mono fun e w' h => h.k (fun _ => rfl)
  | none => exact (wx_flag g A n cap bs w hP).mono fun e w' h => by obtain ⟨rfl, rfl⟩ := h; exact ⟨Keep.refl _ _, _, rfl, rfl, hP.out⟩
set_option maxRecDepth 100000 in
set_option maxHeartbeats 2000000 in
theorem wx_bytes (g : Nat) (A : Option Addr) (n cap : Nat) (bs : List Nat) (w : World) (hP : Hid (PX g A n cap bs w)) :
    Calls Tryz.prog 96 #[.pointer (some ⟨g, 0, none⟩), .func (.func 97) #[] #[]] w fun e w' => e = .returned (.slice none 0 0) ∧ w' = w := by
  obtain ⟨p, hp, hB⟩ := hP.out.blk
  have c2 := hB.cell 2
  clear hB hp
  go_enter Tryz.func96, Tryz.ntmps96
  go_wp2
  go_ret
  exact ⟨rfl, rfl⟩
theorem tk_bytes (g : Nat) (A : Option Addr) (n cap : Nat) (bs : List Nat) (S : Option Nat) (w : World) (hP : Hid (PS g A n cap bs S w)) :
    Calls Tryz.prog 96 #[.pointer (some ⟨g, 0, none⟩), .func (.func 97) #[] #[]] w (RetK vByt (tkF (rText bs) [] S) g A n cap bs w) := by
  cases S with
  | some p => exact (wt_bytes g A n cap bs p w hP).mono fun e w' h => h.k (fun _ => z_byt _)
  | none => exact (wx_bytes g A n cap bs w hP).mono fun e w' h => by obtain ⟨rfl, rfl⟩ := h; exact ⟨Keep.refl _ _, _, rfl, z_byt _, hP.out⟩
set_option maxRecDepth 100000 in
set_option maxHeartbeats 2000000 in
theorem wx_hd (g : Nat) (A : Option Addr) (n cap : Nat) (bs : List Nat) (w : World) (hP : Hid (PX g A n cap bs w)) :
    Calls Tryz.prog 54 #[.pointer (some ⟨g, 0, none⟩), .func (.func 55) #[] #[]] w fun e w' => e = .returned (.agg #[.int .u64 0, .int .i64 0, .int .u64 0, .int .i64 0, .int .i64 0, .int .i64 0, .int .u32 0]) ∧ Below w.heap.size w w' := by
  obtain ⟨w0, ew0⟩ : ∃ w0, w.alloc (.cells #[.int .u64 0, .int .i64 0, .int .u64 0, .int .i64 0, .int .i64 0, .int .i64 0, .int .u32 0] 32) = w0 := ⟨_, rfl⟩
  obtain ⟨w1, ew1⟩ : ∃ w1, w0.alloc (.cells #[.int .u64 0, .int .i64 0, .int .u64 0, .int .i64 0, .int .i64 0, .int .i64 0, .int .u32 0] 32) = w1 := ⟨_, rfl⟩
  have hx0 : Blk (w.alloc (.cells #[.int .u64 0, .int .i64 0, .int .u64 0, .int .i64 0, .int .i64 0, .int .i64 0, .int .u32 0] 32)) w.heap.size 32 #[.int .u64 0, .int .i64 0, .int .u64 0, .int .i64 0, .int .i64 0, .int .i64 0, .int .u32 0] := Blk.new w _ _
  have hb0 : Below w.heap.size w (w.alloc (.cells #[.int .u64 0, .int .i64 0, .int .u64 0, .int .i64 0, .int .i64 0, .int .i64 0, .int .u32 0] 32)) := (Below.refl _ _).alloc (Nat.le_refl _) _
  rw [ew0] at hx0 hb0
  have hx1 : Blk (w0.alloc (.cells #[.int .u64 0, .int .i64 0, .int .u64 0, .int .i64 0, .int .i64 0, .int .i64 0, .int .u32 0] 32)) w0.heap.size 32 #[.int .u64 0, .int .i64 0, .int .u64 0, .int .i64 0, .int .i64 0, .int .i64 0, .int .u32 0] := Blk.new w0 _ _
  have hx0 := hx0.alloc (.cells #[.int .u64 0, .int .i64 0, .int .u64 0, .int .i64 0, .int .i64 0, .int .i64 0, .int .u32 0] 32)
  have hb1 : Below w0.heap.size w0 (w0.alloc (.cells #[.int .u64 0, .int .i64 0, .int .u64 0, .int .i64 0, .int .i64 0, .int .i64 0, .int .u32 0] 32)) := (Below.refl _ _).alloc (Nat.le_refl _) _
  rw [ew1] at hx0 hx1 hb1
  have HB := Lh (hb0.trans (hb1.mono hb0.size))
  have HX := Lh hx0
  have HN := Lh hx1
  obtain ⟨p, hp, hB⟩ := ((hP.out.below hb0).below hb1).blk
  have c2 := hB.cell 2
  clear hx0 hx1 hb0 hb1 hB hp
  go_enter Tryz.func54, Tryz.ntmps54
  go_wp2_with (first
    | rw [ew0]
    | rw [ew1]
    | (refine wpl_load_blk rfl 32 (.tmp 5) rfl w0.heap.size 32 #[.int .u64 0, .int .i64 0, .int .u64 0, .int .i64 0, .int .i64 0, .int .i64 0, .int .u32 0] _ rfl HN.out Tryz.underlying32 rfl Tryz.sizeH ?_)
    | (refine wpl_store_blk rfl 32 (.tmp 4) (.tmp 14) rfl w.heap.size 32 #[.int .u64 0, .int .i64 0, .int .u64 0, .int .i64 0, .int .i64 0, .int .i64 0, .int .u32 0] #[.int .u64 0, .int .i64 0, .int .u64 0, .int .i64 0, .int .i64 0, .int .i64 0, .int .u32 0] rfl rfl HX.out rfl Tryz.sizeH rfl ?_; intro w9 hB9 hO9))
  refine bodyPost_ret (v := .agg #[.int .u64 0, .int .i64 0, .int .u64 0, .int .i64 0, .int .i64 0, .int .i64 0, .int .u32 0]) (res_c Tryz.results54 rfl (load_blk hB9.out Tryz.underlying32 rfl Tryz.sizeH)) rfl ?_
  exact ⟨rfl, HB.out.trans (hO9.out.below (Nat.le_refl _))⟩
theorem tk_hd (g : Nat) (A : Option Addr) (n cap : Nat) (bs : List Nat) (S : Option Nat) (w : World) (hP : Hid (PS g A n cap bs S w)) :
    Calls Tryz.prog 54 #[.pointer (some ⟨g, 0, none⟩), .func (.func 55) #[] #[]] w (RetK vHd (tkF (rHd bs) hdZ S) g A n cap bs w) := by
  cases S with
  | some p => exact (wt_hd g A n cap bs p w hP).mono fun e w' h => h.k (fun _ => z_hd _)
  | none => exact (wx_hd g A n cap bs w hP).mono fun e w' h => by obtain ⟨rfl, hb⟩ := h; exact ⟨Keep.below hb, _, rfl, z_hd _, PX.below hP.out hb⟩
set_option maxRecDepth 100000 in
set_option maxHeartbeats 2000000 in
theorem wx_conf (g : Nat) (A : Option Addr) (n cap : Nat) (bs : List Nat) (w : World) (hP : Hid (PX g A n cap bs w)) :
    Calls Tryz.prog 52 #[.pointer (some ⟨g, 0, none⟩), .func (.func 53) #[] #[]] w fun e w' => e = .returned (.agg #[.slice none 0 0, .slice none 0 0]) ∧ Below w.heap.size w w' := by
  obtain ⟨w0, ew0⟩ : ∃ w0, w.alloc (.cells #[.slice none 0 0, .slice none 0 0] 27) = w0 := ⟨_, rfl⟩
  obtain ⟨w1, ew1⟩ : ∃ w1, w0.alloc (.cells #[.slice none 0 0, .slice none 0 0] 27) = w1 := ⟨_, rfl⟩
  have hx0 : Blk (w.alloc (.cells #[.slice none 0 0, .slice none 0 0] 27)) w.heap.size 27 #[.slice none 0 0, .slice none 0 0] := Blk.new w _ _
  have hb0 : Below w.heap.size w (w.alloc (.cells #[.slice none 0 0, .slice none 0 0] 27)) := (Below.refl _ _).alloc (Nat.le_refl _) _
  rw [ew0] at hx0 hb0
  have hx1 : Blk (w0.alloc (.cells #[.slice none 0 0, .slice none 0 0] 27)) w0.heap.size 27 #[.slice none 0 0, .slice none 0 0] := Blk.new w0 _ _
  have hx0 := hx0.alloc (.cells #[.slice none 0 0, .slice none 0 0] 27)
  have hb1 : Below w0.heap.size w0 (w0.alloc (.cells #[.slice none 0 0, .slice none 0 0] 27)) := (Below.refl _ _).alloc (Nat.le_refl _) _
  rw [ew1] at hx0 hx1 hb1
  have HB := Lh (hb0.trans (hb1.mono hb0.size))
  have HX := Lh hx0
  have HN := Lh hx1
  obtain ⟨p, hp, hB⟩ := ((hP.out.below hb0).below hb1).blk
  have c2 := hB.cell 2
  clear hx0 hx1 hb0 hb1 hB hp
  go_enter Tryz.func52, Tryz.ntmps52
  go_wp2_with (first
    | rw [ew0]
    | rw [ew1]
    | (refine wpl_load_blk rfl 27 (.tmp 5) rfl w0.heap.size 27 #[.slice none 0 0, .slice none 0 0] _ rfl HN.out Tryz.underlying27 rfl Tryz.sizeF ?_)
    | (refine wpl_store_blk rfl 27 (.tmp 4) (.tmp 14) rfl w.heap.size 27 #[.slice none 0 0, .slice none 0 0] #[.slice none 0 0, .slice none 0 0] rfl rfl HX.out rfl Tryz.sizeF rfl ?_; intro w9 hB9 hO9))
  refine bodyPost_ret (v := .agg #[.slice none 0 0, .slice none 0 0]) (res_c Tryz.results52 rfl (load_blk hB9.out Tryz.underlying27 rfl Tryz.sizeF)) rfl ?_
  exact ⟨rfl, HB.out.trans (hO9.out.below (Nat.le_refl _))⟩
theorem tk_conf (g : Nat) (A : Option Addr) (n cap : Nat) (bs : List Nat) (S : Option Nat) (w : World) (hP : Hid (PS g A n cap bs S w)) :
    Calls Tryz.prog 52 #[.pointer (some ⟨g, 0, none⟩), .func (.func 53) #[] #[]] w (RetK (vConf w.heap.size) (tkF (rConf bs) ([], []) S) g A n cap bs w) := by
  cases S with
  | some p => exact (wt_conf g A n cap bs p w hP).mono fun e w' h => h.k (fun _ => z_conf _ _)
  | none => exact (wx_conf g A n cap bs w hP).mono fun e w' h => by obtain ⟨rfl, hb⟩ := h; exact ⟨Keep.below hb, _, rfl, z_conf _ _, PX.below hP.out hb⟩
theorem z_ent (lo : Nat) (w : World) : vEnt lo entZ w (.agg #[.int .u64 0, .int .u64 0, .int .i64 0, .int .i64 0, .int .u64 0, .int .u64 0, .string ⟨#[]⟩, .int .i64 0, .int .u32 0, .int .u64 0, .int .u64 0, .int .i64 0, .int .i64 0, .bool false, .int .u64 0, .int .i64 0, .int .u64 0, .int .u64 0, .slice none 0 0, .slice none 0 0, .slice none 0 0]) := ⟨none, 0, none, 0, none, 0, rfl, lst_nil _ _ _, lst_nil _ _ _, lst_nil _ _ _, ⟨by decide, by decide, by decide, ⟨by decide, by decide, by decide, ⟨fun y h => (by cases h), by decide⟩, by decide, by decide, by decide, by decide, by decide, by decide, ⟨by decide, by decide, by decide⟩, by decide, ⟨fun y h => (by cases h), by decide⟩⟩, ⟨fun y h => (by cases h), by decide⟩, ⟨fun y h => (by cases h), by decide⟩⟩⟩
set_option maxRecDepth 100000 in
set_option maxHeartbeats 2000000 in
theorem wx_ent (g : Nat) (A : Option Addr) (n cap : Nat) (bs : List Nat) (w : World) (hP : Hid (PX g A n cap bs w)) :
    Calls Tryz.prog 50 #[.pointer (some ⟨g, 0, none⟩), .func (.func 51) #[] #[]] w fun e w' => e = .returned (.agg #[.int .u64 0, .int .u64 0, .int .i64 0, .int .i64 0, .int .u64 0, .int .u64 0, .string ⟨#[]⟩, .int .i64 0, .int .u32 0, .int .u64 0, .int .u64 0, .int .i64 0, .int .i64 0, .bool false, .int .u64 0, .int .i64 0, .int .u64 0, .int .u64 0, .slice none 0 0, .slice none 0 0, .slice none 0 0]) ∧ Below w.heap.size w w' := by
  obtain ⟨w0, ew0⟩ : ∃ w0, w.alloc (.cells #[.int .u64 0, .int .u64 0, .int .i64 0, .int .i64 0, .int .u64 0, .int .u64 0, .string ⟨#[]⟩, .int .i64 0, .int .u32 0, .int .u64 0, .int .u64 0, .int .i64 0, .int .i64 0, .bool false, .int .u64 0, .int .i64 0, .int .u64 0, .int .u64 0, .slice none 0 0, .slice none 0 0, .slice none 0 0] 79) = w0 := ⟨_, rfl⟩
  obtain ⟨w1, ew1⟩ : ∃ w1, w0.alloc (.cells #[.int .u64 0, .int .u64 0, .int .i64 0, .int .i64 0, .int .u64 0, .int .u64 0, .string ⟨#[]⟩, .int .i64 0, .int .u32 0, .int .u64 0, .int .u64 0, .int .i64 0, .int .i64 0, .bool false, .int .u64 0, .int .i64 0, .int .u64 0, .int .u64 0, .slice none 0 0, .slice none 0 0, .slice none 0 0] 79) = w1 := ⟨_, rfl⟩
  have hx0 : Blk (w.alloc (.cells #[.int .u64 0, .int .u64 0, .int .i64 0, .int .i64 0, .int .u64 0, .int .u64 0, .string ⟨#[]⟩, .int .i64 0, .int .u32 0, .int .u64 0, .int .u64 0, .int .i64 0, .int .i64 0, .bool false, .int .u64 0, .int .i64 0, .int .u64 0, .int .u64 0, .slice none 0 0, .slice none 0 0, .slice none 0 0] 79)) w.heap.size 79 #[.int .u64 0, .int .u64 0, .int .i64 0, .int .i64 0, .int .u64 0, .int .u64 0, .string ⟨#[]⟩, .int .i64 0, .int .u32 0, .int .u64 0, .int .u64 0, .int .i64 0, .int .i64 0, .bool false, .int .u64 0, .int .i64 0, .int .u64 0, .int .u64 0, .slice none 0 0, .slice none 0 0, .slice none 0 0] := Blk.new w _ _
  have hb0 : Below w.heap.size w (w.alloc (.cells #[.int .u64 0, .int .u64 0, .int .i64 0, .int .i64 0, .int .u64 0, .int .u64 0, .string ⟨#[]⟩, .int .i64 0, .int .u32 0, .int .u64 0, .int .u64 0, .int .i64 0, .int .i64 0, .bool false, .int .u64 0, .int .i64 0, .int .u64 0, .int .u64 0, .slice none 0 0, .slice none 0 0, .slice none 0 0] 79)) := (Below.refl _ _).alloc (Nat.le_refl _) _
  rw [ew0] at hx0 hb0
  have hx1 : Blk (w0.alloc (.cells #[.int .u64 0, .int .u64 0, .int .i64 0, .int .i64 0, .int .u64 0, .int .u64 0, .string ⟨#[]⟩, .int .i64 0, .int .u32 0, .int .u64 0, .int .u64 0, .int .i64 0, .int .i64 0, .bool false, .int .u64 0, .int .i64 0, .int .u64 0, .int .u64 0, .slice none 0 0, .slice none 0 0, .slice none 0 0] 79)) w0.heap.size 79 #[.int .u64 0, .int .u64 0, .int .i64 0, .int .i64 0, .int .u64 0, .int .u64 0, .string ⟨#[]⟩, .int .i64 0, .int .u32 0, .int .u64 0, .int .u64 0, .int .i64 0, .int .i64 0, .bool false, .int .u64 0, .int .i64 0, .int .u64 0, .int .u64 0, .slice none 0 0, .slice none 0 0, .slice none 0 0] := Blk.new w0 _ _
  have hx0 := hx0.alloc (.cells #[.int .u64 0, .int .u64 0, .int .i64 0, .int .i64 0, .int .u64 0, .int .u64 0, .string ⟨#[]⟩, .int .i64 0, .int .u32 0, .int .u64 0, .int .u64 0, .int .i64 0, .int .i64 0, .bool false, .int .u64 0, .int .i64 0, .int .u64 0, .int .u64 0, .slice none 0 0, .slice none 0 0, .slice none 0 0] 79)
  have hb1 : Below w0.heap.size w0 (w0.alloc (.cells #[.int .u64 0, .int .u64 0, .int .i64 0, .int .i64 0, .int .u64 0, .int .u64 0, .string ⟨#[]⟩, .int .i64 0, .int .u32 0, .int .u64 0, .int .u64 0, .int .i64 0, .int .i64 0, .bool false, .int .u64 0, .int .i64 0, .int .u64 0, .int .u64 0, .slice none 0 0, .slice none 0 0, .slice none 0 0] 79)) := (Below.refl _ _).alloc (Nat.le_refl _) _
  rw [ew1] at hx0 hx1 hb1
  have HB := Lh (hb0.trans (hb1.mono hb0.size))
  have HX := Lh hx0
  have HN := Lh hx1
  obtain ⟨p, hp, hB⟩ := ((hP.out.below hb0).below hb1).blk
  have c2 := hB.cell 2
  clear hx0 hx1 hb0 hb1 hB hp
  go_enter Tryz.func50, Tryz.ntmps50
  go_wp2_with (first
    | rw [ew0]
    | rw [ew1]
    | (refine wpl_load_blk rfl 79 (.tmp 5) rfl w0.heap.size 79 #[.int .u64 0, .int .u64 0, .int .i64 0, .int .i64 0, .int .u64 0, .int .u64 0, .string ⟨#[]⟩, .int .i64 0, .int .u32 0, .int .u64 0, .int .u64 0, .int .i64 0, .int .i64 0, .bool false, .int .u64 0, .int .i64 0, .int .u64 0, .int .u64 0, .slice none 0 0, .slice none 0 0, .slice none 0 0] _ rfl HN.out Tryz.underlying79 rfl Tryz.sizeE ?_)
    | (refine wpl_store_blk rfl 79 (.tmp 4) (.tmp 14) rfl w.heap.size 79 #[.int .u64 0, .int .u64 0, .int .i64 0, .int .i64 0, .int .u64 0, .int .u64 0, .string ⟨#[]⟩, .int .i64 0, .int .u32 0, .int .u64 0, .int .u64 0, .int .i64 0, .int .i64 0, .bool false, .int .u64 0, .int .i64 0, .int .u64 0, .int .u64 0, .slice none 0 0, .slice none 0 0, .slice none 0 0] #[.int .u64 0, .int .u64 0, .int .i64 0, .int .i64 0, .int .u64 0, .int .u64 0, .string ⟨#[]⟩, .int .i64 0, .int .u32 0, .int .u64 0, .int .u64 0, .int .i64 0, .int .i64 0, .bool false, .int .u64 0, .int .i64 0, .int .u64 0, .int .u64 0, .slice none 0 0, .slice none 0 0, .slice none 0 0] rfl rfl HX.out rfl Tryz.sizeE rfl ?_; intro w9 hB9 hO9))
  refine bodyPost_ret (v := .agg #[.int .u64 0, .int .u64 0, .int .i64 0, .int .i64 0, .int .u64 0, .int .u64 0, .string ⟨#[]⟩, .int .i64 0, .int .u32 0, .int .u64 0, .int .u64 0, .int .i64 0, .int .i64 0, .bool false, .int .u64 0, .int .i64 0, .int .u64 0, .int .u64 0, .slice none 0 0, .slice none 0 0, .slice none 0 0]) (res_c Tryz.results50 rfl (load_blk hB9.out Tryz.underlying79 rfl Tryz.sizeE)) rfl ?_
  exact ⟨rfl, HB.out.trans (hO9.out.below (Nat.le_refl _))⟩
theorem tk_ent (g : Nat) (A : Option Addr) (n cap : Nat) (bs : List Nat) (S : Option Nat) (w : World) (hP : Hid (PS g A n cap bs S w)) :
    Calls Tryz.prog 50 #[.pointer (some ⟨g, 0, none⟩), .func (.func 51) #[] #[]] w (RetK (vEnt w.heap.size) (tkF (rEnt bs) entZ S) g A n cap bs w) := by
  cases S with
  | some p => exact (wt_ent g A n cap bs p w hP).mono fun e w' h => h.k (fun _ => z_ent _ _)
  | none => exact (wx_ent g A n cap bs w hP).mono fun e w' h => by obtain ⟨rfl, hb⟩ := h; exact ⟨Keep.below hb, _, rfl, z_ent _ _, PX.below hP.out hb⟩
set_option maxRecDepth 100000 in
set_option maxHeartbeats 2000000 in
theorem pb_bytes (g : Nat) (A : Option Addr) (n cap : Nat) (bs : List Nat) (S : Option Nat) (w : World) (hP : Hid (PS g A n cap bs S w)) :
    Calls Tryz.prog 56 #[.pointer (some ⟨g, 0, none⟩)] w (RetK vByt (tkF (rText bs) [] S) g A n cap bs w) := by
  have HC := Lh (tk_bytes g A n cap bs S w hP)
  go_enter Tryz.func56, Tryz.ntmps56
  go_wp2_with (go_at_call 96; refine HC.out.mono ?_; rintro e w' ⟨hk, v, rfl, hv, hp⟩; have HH := Lh (And.intro hk (And.intro hv hp)); clear hk hv hp)
  go_ret
  exact ⟨HH.out.1, _, rfl, HH.out.2.1, HH.out.2.2⟩
def vCnt (x : Nat) (_ : World) (v : Value) : Prop := v = .int .i64 (x : Int) ∧ x ≤ 1048576
def rCnt (bs : List Nat) : Rd Nat := (rNum bs).bind fun x p => if 1048576 < x ∨ bs.length - p < x then none else some (x, p)
theorem rList_cnt {α : Type} (bs : List Nat) (one : Rd α) : rList bs one = (rCnt bs).bind fun x => rTimes one x := by
  funext p
  unfold rList rCnt Rd.bind
  cases rNum bs p with
  | none => rfl
  | some y =>
    obtain ⟨x, q⟩ := y
    simp only
    split <;> rfl
set_option maxRecDepth 100000 in
set_option maxHeartbeats 2000000 in
theorem pb_count (g : Nat) (A : Option Addr) (n cap : Nat) (bs : List Nat) (S : Option Nat) (w : World) (hP : Hid (PS g A n cap bs S w)) :
    Calls Tryz.prog 49 #[.pointer (some ⟨g, 0, none⟩)] w (RetK vCnt (tkF (rCnt bs) 0 S) g A n cap bs w) := by
  have HC := Lh (tk_num g A n cap bs S w hP)
  have HE := Lh (show (tkF (rNum bs) 0 S).2 = none → tkF (rCnt bs) 0 S = (0, none) ∧ (tkF (rNum bs) 0 S).1 = 0 from by
    intro h
    cases S with
    | none => exact ⟨rfl, rfl⟩
    | some p =>
      cases e : rNum bs p with
      | none => rw [tkF_none e]; exact ⟨tkF_none (by unfold rCnt Rd.bind; rw [e]), rfl⟩
      | some y => obtain ⟨x, q⟩ := y; rw [tkF_some e] at h; cases h)
  have HS := Lh (show ∀ q, (tkF (rNum bs) 0 S).2 = some q → tkF (rCnt bs) 0 S = if 1048576 < (tkF (rNum bs) 0 S).1 ∨ n - q < (tkF (rNum bs) 0 S).1 then (0, none) else ((tkF (rNum bs) 0 S).1, some q) from by
    intro q h
    rw [← hP.out.inb.len]
    cases S with
    | none => cases h
    | some p =>
      cases e : rNum bs p with
      | none => rw [tkF_none e] at h; cases h
      | some y =>
        obtain ⟨x, q'⟩ := y
        rw [tkF_some e] at h ⊢
        cases h
        by_cases hc : 1048576 < x ∨ bs.length - q < x
        · rw [if_pos hc]; exact tkF_none (by unfold rCnt Rd.bind; rw [e]; exact if_pos hc)
        · rw [if_neg hc]; exact tkF_some (by unfold rCnt Rd.bind; rw [e]; exact if_neg hc))
  have hn9 := hP.out.inb.reach
  generalize tkF (rNum bs) 0 S = y at *
  obtain ⟨x, T⟩ := y
  cases T with
  | none =>
    obtain ⟨e1, e2⟩ := HE.out rfl
    simp only at e2
    subst e2
    have HE1 := Lh e1
    clear HS HE e1
    go_enter Tryz.func49, Tryz.ntmps49
    go_wp2_with (go_at_call 45; refine HC.out.mono ?_; rintro e w' ⟨hk, v, rfl, ⟨rfl, hv⟩, hp⟩; obtain ⟨p, hpn, hB⟩ := PX.blk hp; have c0 := hB.cell 0; have c1 := hB.cell 1; have HH := Lh (And.intro hk hp); have hp2 := PX.inb hp; clear hk hv hp hB)
    obtain ⟨d, ed⟩ : ∃ d, n - p = d := ⟨_, rfl⟩
    have e1 : IntKind.i64.wrap ((n : Int) - (p : Int)) = (d : Int) := by rw [IntKind.wrap_i64]; omega
    have e2 : IntKind.u64.wrap (d : Int) = (d : Int) := by rw [IntKind.wrap_u64]; omega
    have d3 : decide ((0 : Int) > (d : Int)) = false := decide_eq_false (by omega)
    have d4 : decide ((d : Int) < 0) = false := decide_eq_false (by omega)
    clear ed hp2 hpn hn9
    go_region
    go_wp2
    go_ret
    rw [HE1.out]
    exact ⟨HH.out.1.trans keep_drew, _, rfl, ⟨rfl, by decide⟩, PX.drew HH.out.2⟩
  | some q =>
    have hq := HS.out q rfl
    simp only at hq
    clear HS HE
    by_cases h1 : 1048576 < x
    · rw [if_pos (.inl h1)] at hq
      have HQ := Lh hq
      have d1 : decide ((x : Int) > 1048576) = true := decide_eq_true (by omega)
      have d2 : decide (1048576 < x) = true := decide_eq_true h1
      clear h1 hq hn9
      go_enter Tryz.func49, Tryz.ntmps49
      go_wp2_with (go_at_call 45; refine HC.out.mono ?_; rintro e w' ⟨hk, v, rfl, ⟨rfl, hv⟩, hp⟩; have hB := PW.blk hp; have c0 := hB.cell 0; have c1 := hB.cell 1; have c2 := hB.cell 2; have f2 := hB.frozen 2; have HF := Lh (PW.fail (PW.drew hp)); have HH := Lh hk; clear hk hv hp hB)
      go_region
      go_wp2
      go_ret
      rw [HQ.out]
      exact ⟨(HH.out.trans keep_drew).trans HF.out.2, _, rfl, ⟨rfl, by decide⟩, HF.out.1⟩
    · have d1 : decide ((x : Int) > 1048576) = false := decide_eq_false (by omega)
      have d2 : decide (1048576 < x) = false := decide_eq_false h1
      have hx1 : x ≤ 1048576 := by omega
      by_cases h2 : n - q < x
      · rw [if_pos (.inr h2)] at hq
        have HQ := Lh hq
        clear hq
        go_enter Tryz.func49, Tryz.ntmps49
        go_wp2_with (go_at_call 45; refine HC.out.mono ?_; rintro e w' ⟨hk, v, rfl, ⟨rfl, hv⟩, hp⟩; have hB := PW.blk hp; have hpl := PW.pl hp; have c0 := hB.cell 0; have c1 := hB.cell 1; have c2 := hB.cell 2; have f2 := hB.frozen 2; have HF := Lh (PW.fail (PW.drew hp)); have HH := Lh hk; clear hk hv hp hB)
        obtain ⟨d, ed⟩ : ∃ d, n - q = d := ⟨_, rfl⟩
        have e1 : IntKind.i64.wrap ((n : Int) - (q : Int)) = (d : Int) := by rw [IntKind.wrap_i64]; omega
        have e2 : IntKind.u64.wrap (d : Int) = (d : Int) := by rw [IntKind.wrap_u64]; omega
        have d3 : decide ((x : Int) > (d : Int)) = true := decide_eq_true (by omega)
        have d4 : decide (d < x) = true := decide_eq_true (by omega)
        clear ed hpl h1 h2 hx1 hn9
        go_region
        go_wp2
        go_ret
        rw [HQ.out]
        exact ⟨(HH.out.trans keep_drew).trans HF.out.2, _, rfl, ⟨rfl, by decide⟩, HF.out.1⟩
      · rw [if_neg (by omega)] at hq
        have HQ := Lh hq
        have HX := Lh hx1
        clear hq
        go_enter Tryz.func49, Tryz.ntmps49
        go_wp2_with (go_at_call 45; refine HC.out.mono ?_; rintro e w' ⟨hk, v, rfl, ⟨rfl, hv⟩, hp⟩; have hB := PW.blk hp; have hpl := PW.pl hp; have c0 := hB.cell 0; have c1 := hB.cell 1; have HF := Lh hp; have HH := Lh hk; clear hk hv hp hB)
        obtain ⟨d, ed⟩ : ∃ d, n - q = d := ⟨_, rfl⟩
        have e1 : IntKind.i64.wrap ((n : Int) - (q : Int)) = (d : Int) := by rw [IntKind.wrap_i64]; omega
        have e2 : IntKind.u64.wrap (d : Int) = (d : Int) := by rw [IntKind.wrap_u64]; omega
        have e3 : IntKind.i64.wrap (x : Int) = (x : Int) := by rw [IntKind.wrap_i64]; omega
        have d3 : decide ((x : Int) > (d : Int)) = false := decide_eq_false (by omega)
        have d4 : decide (d < x) = false := decide_eq_false (by omega)
        clear ed hpl h1 h2 hx1 hn9
        go_region
        go_wp2
        go_ret
        rw [HQ.out]
        exact ⟨HH.out.trans keep_drew, _, rfl, ⟨rfl, HX.out⟩, PW.drew HF.out⟩
end Go.Proofs.YtlnneacgllhdhaaGreatDoor
end
section
namespace Go.Proofs.YtlnneacgllhdhaaGreatDoor
open Go.RowKit
set_option linter.unusedVariables false
theorem Reads.first {w : World} {B n : Nat} {A : Option Addr} {xs : List Value} (h : Reads w B 1 A n xs) {k : Nat} (hk : k ≤ n) : Reads w B 1 A k (xs.take k) := by
  have hl : xs.length = n := by simpa using h.1
  refine ⟨by rw [List.length_take]; omega, fun h0 => ?_⟩
  obtain ⟨ad, rfl, hb, hc⟩ := h.2 (by omega)
  refine ⟨ad, rfl, hb, fun j u hu => hc j u ?_⟩
  rcases Nat.lt_or_ge j k with hj | hj
  · rw [List.getElem?_take_of_lt hj] at hu; exact hu
  · rw [List.getElem?_eq_none (by rw [List.length_take]; omega)] at hu; cases hu
end Go.Proofs.YtlnneacgllhdhaaGreatDoor
end
section
namespace Go.Proofs.YtlnneacgllhdhaaGreatDoor
open Go.RowKit OctMath
set_option linter.unusedVariables false
set_option linter.unusedSimpArgs false
theorem slice_tail {P : Program} {t e : TypeId} (ht : P.underlying t = some (.slice e)) (hi : (P.info? e).map (fun i => (i.zero, i.size, i.bytes)) = some (some (.int .u8 0), 1, 1)) {w : World} {B n cap : Nat} {A : Option Addr} {xs : List Nat} (h : Reads w B 1 A n (xs.map bv)) (j : Nat) (hj : j ≤ n) (hn : n ≤ cap) :
    ∃ A2, (∀ W : World, (Instr.sliceAt t (.slice A n cap) (some (.int .i64 (j : Int))) none none).run P W = .ok (.slice A2 (n - j) (cap - j)) W) ∧
      (∀ w' : World, Reads w' B 1 A n (xs.map bv) → Reads w' B 1 A2 (n - j) ((xs.drop j).map bv)) := by
  obtain ⟨i, hi, k2, k3, k4⟩ := info_parts hi
  refine ⟨if cap = j then A else A.map (·.add (j * 1)), fun W => slice_from ht hi k3 A n cap j hj hn W, fun w' h' => ?_⟩
  have hc := h'.cut (k := j) (by omega) hn
  rw [Nat.mul_one, ← List.map_drop] at hc
  rw [Nat.mul_one]
  exact hc
theorem slice_top {P : Program} {t e : TypeId} (ht : P.underlying t = some (.slice e)) (hi : (P.info? e).map (fun i => (i.zero, i.size, i.bytes)) = some (some (.int .u8 0), 1, 1)) (A : Option Addr) (n cap k : Nat) (hk : k ≤ cap) (W : World) :
    (Instr.sliceAt t (.slice A n cap) none (some (.int .i64 (k : Int))) (some (.int .i64 (k : Int)))).run P W = .ok (.slice A k k) W := by
  obtain ⟨i, hi, k2, k3, k4⟩ := info_parts hi
  have e1 : 0 ≤ (k : Int) ∧ (k : Int) ≤ cap := by omega
  have e2 : (if k = 0 then A else A.map (·.add 0)) = A := by
    split
    · rfl
    · cases A with
      | none => rfl
      | some a => show some (a.add 0) = some a; rw [Addr.add_zero']
  simp [Instr.sliceAt, run_underlying ht, Instr.slice, Instr.sliceBounds, Instr.sliceBound, asIntOf, sizeOf, typeInfo, hi, k3, e1]
  rw [if_pos hk, e2]
def RdB (w : World) (A : Option Addr) (l cap : Nat) (xs : List Nat) : Prop := Reads w w.heap.size 1 A l (xs.map bv) ∧ Byt xs ∧ l ≤ cap ∧ cap ≤ maxLen
theorem RdB.later {w w' : World} {A : Option Addr} {l cap : Nat} {xs : List Nat} (h : RdB w A l cap xs) (hb : Below w.heap.size w w') : RdB w' A l cap xs := ⟨h.1.later hb, h.2⟩
theorem RdB.len {w : World} {A : Option Addr} {l cap : Nat} {xs : List Nat} (h : RdB w A l cap xs) : xs.length = l := by simpa using h.1.1
def RetOpn (xs : List Nat) (n : Nat) (w : World) (e : Ending) (w' : World) : Prop := Below w.heap.size w w' ∧
  (((opn xs n).1 ≠ 0 ∧ e = .returned (.tuple #[.slice none 0 0, .slice none 0 0, .iface 125 (.int .i64 ((opn xs n).1 : Int))])) ∨
   ((opn xs n).1 = 0 ∧ ∃ A1 c1 A2 l2 c2, e = .returned (.tuple #[.slice A1 n c1, .slice A2 l2 c2, .nilIface]) ∧ RdB w' A1 n c1 (xs.take n) ∧ RdB w' A2 l2 c2 (xs.drop (n + 4))))
set_option maxRecDepth 100000 in
set_option maxHeartbeats 4000000 in
theorem opened_any (A : Option Addr) (l cap : Nat) (xs : List Nat) (n : Nat) (w : World) (hr : Hid (RdB w A l cap xs)) (hn : n ≤ 4194304) :
    Calls Tryz.prog 87 #[.slice A l cap, .int .i64 (n : Int)] w (RetOpn xs n w) := by
  have hl := hr.out.len
  have hcm := hr.out.2.2.2
  have hlc := hr.out.2.2.1
  unfold maxLen at hcm
  by_cases h1 : l < n + 4
  · have HE := Lh (opn_short (bs := xs) (n := n) (by omega))
    have d1 : decide ((l : Int) - 4 < (n : Int)) = true := decide_eq_true (by omega)
    have d2 : decide ((l : Int) < (n : Int) + 4) = true := decide_eq_true (by omega)
    clear h1
    go_enter Tryz.func87, Tryz.ntmps87
    go_wp2
    go_ret3
    refine ⟨Below.refl _ _, .inl ?_⟩
    rw [HE.out]
    exact ⟨by decide, rfl⟩
  · have d1 : decide ((l : Int) - 4 < (n : Int)) = false := decide_eq_false (by omega)
    have d2 : decide ((l : Int) < (n : Int) + 4) = false := decide_eq_false (by omega)
    have HT := Lh (slice_top Tryz.underlying33 Tryz.infoU8 A l cap n (by omega))
    have ht := HT.out
    obtain ⟨A2, hs2, hr2⟩ := slice_tail Tryz.underlying33 Tryz.infoU8 hr.out.1 n (by omega) hlc
    have hR2 := hr2 w hr.out.1
    have hb2 : Byt (xs.drop n) := fun x hx => hr.out.2.1 x (List.mem_of_mem_drop hx)
    have hb1 : Byt (xs.take n) := fun x hx => hr.out.2.1 x (List.mem_of_mem_take hx)
    have hR1 : Reads w w.heap.size 1 A n ((xs.take n).map bv) := by
      have := hr.out.1.first (k := n) (by omega)
      rw [← List.map_take] at this
      exact this
    have HW := Lh (fun W h => wword_any A2 (l - n) (cap - n) (xs.drop n) W h hb2 (by omega))
    have HC := Lh (fun W h => crc_any A n n (xs.take n) W hb1 (by rw [List.length_take]; omega) h (by unfold maxLen; omega))
    obtain ⟨A3, hs3, hr3⟩ := slice_tail (cap := cap - n) Tryz.underlying33 Tryz.infoU8 hR2 4 (by omega) (by omega)
    have hs4 : ∀ W : World, (Instr.sliceAt 33 (.slice A2 (l - n) (cap - n)) (some (.int .i64 4)) none none).run Tryz.prog W = .ok (.slice A3 (l - n - 4) (cap - n - 4)) W := hs3
    have HR1 := Lh hR1
    have HR2 := Lh hR2
    have HR3 := Lh hr3
    have HB := Lh (And.intro hb1 (And.intro hb2 hr.out.2.1))
    have HO := Lh (show opn xs n = if wordN (xs.drop n) = crc (xs.take n) then (0, xs.take n, xs.drop (n + 4)) else (61, [], []) from by unfold opn; rw [if_neg (by omega)])
    have HL := Lh (And.intro h1 (And.intro hlc hcm))
    clear hR1 hR2 hr2 hr3 hb1 hb2 hs3 h1
    by_cases hc : wordN (xs.drop n) = crc (xs.take n)
    · rw [if_pos hc] at HO
      have d3 : decide ((wordN (xs.drop n) : Int) ≠ (crc (xs.take n) : Int)) = false := by simp [hc]
      rw [hc] at HW
      clear hc d3
      go_enter Tryz.func87, Tryz.ntmps87
      go_wp2_with fail
      go_region
      go_wp2_with (first
        | (go_at_call 88; refine (HW.out _ (Lh HR2.out.drew)).mono ?_; rintro ev w1 ⟨rfl, rfl⟩)
        | (go_at_call 86; refine (HC.out _ HR1.out.drew.drew).mono ?_; rintro ev w2 ⟨rfl, hb⟩; have HB2 := Lh hb; clear hb))
      go_region
      go_wp2
      go_ret3
      have hB : Below w.heap.size w w2.drew := ((Below.refl _ _).drew.drew.trans HB2.out).drew
      refine ⟨hB, .inr ?_⟩
      rw [HO.out]
      have h3 := HR3.out w HR2.out
      rw [List.drop_drop] at h3
      exact ⟨rfl, A, n, A3, l - n - 4, cap - n - 4, rfl, ⟨HR1.out.later hB, HB.out.1, Nat.le_refl _, by unfold maxLen; omega⟩, ⟨h3.later hB, fun x hx => HB.out.2.2 x (List.mem_of_mem_drop hx), by have := HL.out; omega, by have := HL.out; unfold maxLen; omega⟩⟩
    · rw [if_neg hc] at HO
      have hne : (wordN (xs.drop n) : Int) ≠ (crc (xs.take n) : Int) := fun h => hc (by exact_mod_cast h)
      obtain ⟨c1, hc1⟩ : ∃ c, wordN (xs.drop n) = c := ⟨_, rfl⟩
      obtain ⟨c2, hc2⟩ : ∃ c, crc (xs.take n) = c := ⟨_, rfl⟩
      rw [hc1] at HW hne
      rw [hc2] at HC hne
      have d3 : ((c1 : Int) == (c2 : Int)) = false := by rw [beq_eq_false_iff_ne]; exact hne
      have d4 : ((c1 : Int) != (c2 : Int)) = true := by rw [bne, d3]; rfl
      have d5 : decide ((c1 : Int) = (c2 : Int)) = false := decide_eq_false hne
      have d6 : decide (c1 = c2) = false := decide_eq_false (fun h => hne (by rw [h]))
      have d7 : (c1 == c2) = false := by rw [beq_eq_false_iff_ne]; exact fun h => hne (by rw [h])
      clear hc hne hc1 hc2
      go_enter Tryz.func87, Tryz.ntmps87
      go_wp2_with fail
      go_region
      go_wp2_with (first
        | (go_at_call 88; refine (HW.out _ (Lh HR2.out.drew)).mono ?_; rintro ev w1 ⟨rfl, rfl⟩)
        | (go_at_call 86; refine (HC.out _ HR1.out.drew.drew).mono ?_; rintro ev w2 ⟨rfl, hb⟩; have HB2 := Lh hb; clear hb))
      go_ret3
      have hB : Below w.heap.size w w2 := (Below.refl _ _).drew.drew.trans HB2.out
      refine ⟨hB, .inl ?_⟩
      rw [HO.out]
      exact ⟨by decide, rfl⟩
end Go.Proofs.YtlnneacgllhdhaaGreatDoor
end
