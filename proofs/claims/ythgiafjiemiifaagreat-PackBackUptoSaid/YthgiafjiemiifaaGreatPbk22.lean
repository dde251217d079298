/-
  THE PROGRAM'S READERS, exported. (printed by gen_pag3.py); THE REFERENCE'S READERS, exported. (printed by gen_pas4.py). (joined out of PaG3, PaQ11 by shake.py)
-/
import Derived.Test.YthgiafjiemiifaaGreatPbk21
import Derived.Test.YthgiafjiemiifaaGreatPbk19
section
namespace Go.Proofs.YthgiafjiemiifaaGreat
open Go.RowKit OctMath
set_option linter.unusedVariables false
set_option linter.unusedSimpArgs false
theorem InB.later {w w' : World} {A : Option Addr} {n cap : Nat} {bs : List Nat} (h : InB w A n cap bs) (hb : Below w.heap.size w w') : InB w' A n cap bs := ⟨h.rd.later hb, h.byt, h.len, h.le, h.mx, h.reach⟩
section
variable {P : Program} {fn : Func} {tmps : Array Value} {a b c : Nat} {ty : TypeId} {p : Addr} {u v z : Value} {w : World}
theorem res_ctt (hr : fn.results = #[.cell a ty, .tmp b, .tmp c]) (ha : tmps.getD a undef = .pointer (some p)) (hb : tmps.getD b undef = v) (hc : tmps.getD c undef = z) (hl : (loadVar ty p).run P w = .ok u w) :
    (results fn tmps).run P w = .ok (.tuple #[u, v, z]) w := by
  simp only [Array.getD_eq_getD_getElem?] at ha hb hc
  simp [results, hr, ha, hb, hc, asAddr, hl]
end
set_option maxRecDepth 100000 in
set_option maxHeartbeats 2000000 in
theorem conf_read (A : Option Addr) (n cap : Nat) (bs : List Nat) (p : Nat) (w : World) (HI : Hid (InB w A n cap bs)) (hp : p ≤ n) :
    Calls Tryz.prog 34 #[.slice A n cap, .int .i64 (p : Int)] w (RetG (rConf bs p) (vConf w.heap.size) (.agg #[.slice none 0 0, .slice none 0 0]) w) := by
  have hx := Blk.new w 36 #[.slice none 0 0, .slice none 0 0]
  have hb0 := (Below.refl w.heap.size w).alloc (Nat.le_refl _) (.cells #[.slice none 0 0, .slice none 0 0] 36)
  obtain ⟨w0, ew0⟩ : ∃ w0, w.alloc (.cells #[.slice none 0 0, .slice none 0 0] 36) = w0 := ⟨_, rfl⟩
  rw [ew0] at hx hb0
  have HX := Lib.hid hx
  have HB0 := Lib.hid hb0
  clear hx hb0
  go_enter Tryz.func34, Tryz.ntmps34
  go_wp2_with fail
  clear ew0
  refine (conf_got A n cap bs p w0 (Lib.hid (HI.out.later HB0.out)) hp).mono ?_
  have HX0 := Lib.hid HX.out.lt
  cases hr : rConf bs p with
  | none =>
    rintro e w1 ⟨hb, rfl⟩
    have HX := Lib.hid (HX.out.below hb HX.out.lt)
    have HB := Lib.hid (HB0.out.trans (hb.mono HB0.out.size))
    clear hb
    go_wp2_with (refine wpl_store_blk rfl 36 (.tmp 4) (.tmp 10) rfl w.heap.size 36 #[.slice none 0 0, .slice none 0 0] #[.slice none 0 0, .slice none 0 0] rfl rfl HX.out rfl Tryz.sizeF rfl ?_; intro w2 hB hO)
    refine bodyPost_ret (v := .tuple #[.agg #[.slice none 0 0, .slice none 0 0], .int .i64 0, .int .i64 50]) (res_ctt Tryz.results34 rfl rfl rfl (load_blk hB.out Tryz.underlying36 rfl Tryz.sizeF)) rfl ?_
    have HB := HB.out.trans (hO.out.below (Nat.le_refl _))
    rw [hr]
    exact ⟨HB, rfl⟩
  | some x =>
    obtain ⟨x1, q1⟩ := x
    rintro e w1 ⟨hb, v, rfl, ⟨A1, c1, A2, c2, rfl, l1, l2, b1, b2⟩⟩
    have HX := Lib.hid (HX.out.below hb HX.out.lt)
    have HB := Lib.hid (HB0.out.trans (hb.mono HB0.out.size))
    have L1 := Lib.hid l1
    clear l1
    have L2 := Lib.hid l2
    clear l2
    clear hb
    go_wp2_with (refine wpl_store_blk rfl 36 (.tmp 4) (.tmp 10) rfl w.heap.size 36 #[.slice none 0 0, .slice none 0 0] #[.slice A1 x1.1.length c1, .slice A2 x1.2.length c2] rfl rfl HX.out rfl Tryz.sizeF rfl ?_; intro w2 hB hO)
    refine bodyPost_ret (v := .tuple #[.agg #[.slice A1 x1.1.length c1, .slice A2 x1.2.length c2], .int .i64 (q1 : Int), .int .i64 0]) (res_ctt Tryz.results34 rfl rfl rfl (load_blk hB.out Tryz.underlying36 rfl Tryz.sizeF)) rfl ?_
    have HB := HB.out.trans (hO.out.below (Nat.le_refl _))
    have L1 := Lib.hid (L1.out.only hO.out (L1.out.apart_lo HX0.out))
    have L2 := Lib.hid (L2.out.only hO.out (L2.out.apart_lo HX0.out))
    rw [hr]
    exact ⟨HB, _, rfl, ⟨A1, c1, A2, c2, rfl, L1.out.mono (by have := HB0.out.size; omega), L2.out.mono (by have := HB0.out.size; omega), b1, b2⟩⟩
set_option maxRecDepth 100000 in
set_option maxHeartbeats 2000000 in
theorem conf_read_bad (A : Option Addr) (n cap : Nat) (at_ : Int) (w : World) (hn : n ≤ 140737488351232) (h : at_ < 0 ∨ (n : Int) < at_) :
    Calls Tryz.prog 34 #[.slice A n cap, .int .i64 at_] w fun e w' => e = .returned (.tuple #[.agg #[.slice none 0 0, .slice none 0 0], .int .i64 0, .int .i64 2]) ∧ Below w.heap.size w w' := by
  have hx := Blk.new w 36 #[.slice none 0 0, .slice none 0 0]
  have hb0 := (Below.refl w.heap.size w).alloc (Nat.le_refl _) (.cells #[.slice none 0 0, .slice none 0 0] 36)
  obtain ⟨w0, ew0⟩ : ∃ w0, w.alloc (.cells #[.slice none 0 0, .slice none 0 0] 36) = w0 := ⟨_, rfl⟩
  rw [ew0] at hx hb0
  have HX := Lib.hid hx
  have HB0 := Lib.hid hb0
  clear hx hb0
  go_enter Tryz.func34, Tryz.ntmps34
  go_wp2_with fail
  clear ew0
  refine (conf_got_bad A n cap at_ w0 hn h).mono ?_
  rintro e w1 ⟨rfl, hb⟩
  have HX := Lib.hid (HX.out.below hb HX.out.lt)
  have HB := Lib.hid (HB0.out.trans (hb.mono HB0.out.size))
  clear hb
  go_wp2_with (refine wpl_store_blk rfl 36 (.tmp 4) (.tmp 10) rfl w.heap.size 36 #[.slice none 0 0, .slice none 0 0] #[.slice none 0 0, .slice none 0 0] rfl rfl HX.out rfl Tryz.sizeF rfl ?_; intro w2 hB hO)
  refine bodyPost_ret (v := .tuple #[.agg #[.slice none 0 0, .slice none 0 0], .int .i64 0, .int .i64 2]) (res_ctt Tryz.results34 rfl rfl rfl (load_blk hB.out Tryz.underlying36 rfl Tryz.sizeF)) rfl ?_
  have HB := HB.out.trans (hO.out.below (Nat.le_refl _))
  exact ⟨rfl, HB⟩
set_option maxRecDepth 100000 in
set_option maxHeartbeats 2000000 in
theorem cmd_read (A : Option Addr) (n cap : Nat) (bs : List Nat) (p : Nat) (w : World) (HI : Hid (InB w A n cap bs)) (hp : p ≤ n) :
    Calls Tryz.prog 17 #[.slice A n cap, .int .i64 (p : Int)] w (RetG (rCmd bs p) (vCmd w.heap.size) (.agg #[.int .i64 0, .int .u64 0, .int .u64 0, .string ⟨#[]⟩, .int .i64 0, .int .u32 0, .int .u64 0, .int .u64 0, .int .i64 0, .int .i64 0, .bool false, .int .u64 0, .int .i64 0, .int .u64 0, .int .u64 0, .slice none 0 0]) w) := by
  have hx := Blk.new w 33 #[.int .i64 0, .int .u64 0, .int .u64 0, .string ⟨#[]⟩, .int .i64 0, .int .u32 0, .int .u64 0, .int .u64 0, .int .i64 0, .int .i64 0, .bool false, .int .u64 0, .int .i64 0, .int .u64 0, .int .u64 0, .slice none 0 0]
  have hb0 := (Below.refl w.heap.size w).alloc (Nat.le_refl _) (.cells #[.int .i64 0, .int .u64 0, .int .u64 0, .string ⟨#[]⟩, .int .i64 0, .int .u32 0, .int .u64 0, .int .u64 0, .int .i64 0, .int .i64 0, .bool false, .int .u64 0, .int .i64 0, .int .u64 0, .int .u64 0, .slice none 0 0] 33)
  obtain ⟨w0, ew0⟩ : ∃ w0, w.alloc (.cells #[.int .i64 0, .int .u64 0, .int .u64 0, .string ⟨#[]⟩, .int .i64 0, .int .u32 0, .int .u64 0, .int .u64 0, .int .i64 0, .int .i64 0, .bool false, .int .u64 0, .int .i64 0, .int .u64 0, .int .u64 0, .slice none 0 0] 33) = w0 := ⟨_, rfl⟩
  rw [ew0] at hx hb0
  have HX := Lib.hid hx
  have HB0 := Lib.hid hb0
  clear hx hb0
  go_enter Tryz.func17, Tryz.ntmps17
  go_wp2_with fail
  clear ew0
  refine (cmd_got A n cap bs p w0 (Lib.hid (HI.out.later HB0.out)) hp).mono ?_
  have HX0 := Lib.hid HX.out.lt
  cases hr : rCmd bs p with
  | none =>
    rintro e w1 ⟨hb, rfl⟩
    have HX := Lib.hid (HX.out.below hb HX.out.lt)
    have HB := Lib.hid (HB0.out.trans (hb.mono HB0.out.size))
    clear hb
    go_wp2_with (refine wpl_store_blk rfl 33 (.tmp 4) (.tmp 10) rfl w.heap.size 33 #[.int .i64 0, .int .u64 0, .int .u64 0, .string ⟨#[]⟩, .int .i64 0, .int .u32 0, .int .u64 0, .int .u64 0, .int .i64 0, .int .i64 0, .bool false, .int .u64 0, .int .i64 0, .int .u64 0, .int .u64 0, .slice none 0 0] #[.int .i64 0, .int .u64 0, .int .u64 0, .string ⟨#[]⟩, .int .i64 0, .int .u32 0, .int .u64 0, .int .u64 0, .int .i64 0, .int .i64 0, .bool false, .int .u64 0, .int .i64 0, .int .u64 0, .int .u64 0, .slice none 0 0] rfl rfl HX.out rfl Tryz.sizeC rfl ?_; intro w2 hB hO)
    refine bodyPost_ret (v := .tuple #[.agg #[.int .i64 0, .int .u64 0, .int .u64 0, .string ⟨#[]⟩, .int .i64 0, .int .u32 0, .int .u64 0, .int .u64 0, .int .i64 0, .int .i64 0, .bool false, .int .u64 0, .int .i64 0, .int .u64 0, .int .u64 0, .slice none 0 0], .int .i64 0, .int .i64 50]) (res_ctt Tryz.results17 rfl rfl rfl (load_blk hB.out Tryz.underlying33 rfl Tryz.sizeC)) rfl ?_
    have HB := HB.out.trans (hO.out.below (Nat.le_refl _))
    rw [hr]
    exact ⟨HB, rfl⟩
  | some x =>
    obtain ⟨x1, q1⟩ := x
    rintro e w1 ⟨hb, v, rfl, ⟨A1, c1, rfl, l1, b1⟩⟩
    have HX := Lib.hid (HX.out.below hb HX.out.lt)
    have HB := Lib.hid (HB0.out.trans (hb.mono HB0.out.size))
    have L1 := Lib.hid l1
    clear l1
    clear hb
    go_wp2_with (refine wpl_store_blk rfl 33 (.tmp 4) (.tmp 10) rfl w.heap.size 33 #[.int .i64 0, .int .u64 0, .int .u64 0, .string ⟨#[]⟩, .int .i64 0, .int .u32 0, .int .u64 0, .int .u64 0, .int .i64 0, .int .i64 0, .bool false, .int .u64 0, .int .i64 0, .int .u64 0, .int .u64 0, .slice none 0 0] (cmdCs x1 A1 c1) rfl rfl HX.out rfl Tryz.sizeC rfl ?_; intro w2 hB hO)
    refine bodyPost_ret (v := .tuple #[.agg (cmdCs x1 A1 c1), .int .i64 (q1 : Int), .int .i64 0]) (res_ctt Tryz.results17 rfl rfl rfl (load_blk hB.out Tryz.underlying33 rfl Tryz.sizeC)) rfl ?_
    have HB := HB.out.trans (hO.out.below (Nat.le_refl _))
    have L1 := Lib.hid (L1.out.only hO.out (L1.out.apart_lo HX0.out))
    rw [hr]
    exact ⟨HB, _, rfl, ⟨A1, c1, rfl, L1.out.mono (by have := HB0.out.size; omega), b1⟩⟩
set_option maxRecDepth 100000 in
set_option maxHeartbeats 2000000 in
theorem cmd_read_bad (A : Option Addr) (n cap : Nat) (at_ : Int) (w : World) (hn : n ≤ 140737488351232) (h : at_ < 0 ∨ (n : Int) < at_) :
    Calls Tryz.prog 17 #[.slice A n cap, .int .i64 at_] w fun e w' => e = .returned (.tuple #[.agg #[.int .i64 0, .int .u64 0, .int .u64 0, .string ⟨#[]⟩, .int .i64 0, .int .u32 0, .int .u64 0, .int .u64 0, .int .i64 0, .int .i64 0, .bool false, .int .u64 0, .int .i64 0, .int .u64 0, .int .u64 0, .slice none 0 0], .int .i64 0, .int .i64 2]) ∧ Below w.heap.size w w' := by
  have hx := Blk.new w 33 #[.int .i64 0, .int .u64 0, .int .u64 0, .string ⟨#[]⟩, .int .i64 0, .int .u32 0, .int .u64 0, .int .u64 0, .int .i64 0, .int .i64 0, .bool false, .int .u64 0, .int .i64 0, .int .u64 0, .int .u64 0, .slice none 0 0]
  have hb0 := (Below.refl w.heap.size w).alloc (Nat.le_refl _) (.cells #[.int .i64 0, .int .u64 0, .int .u64 0, .string ⟨#[]⟩, .int .i64 0, .int .u32 0, .int .u64 0, .int .u64 0, .int .i64 0, .int .i64 0, .bool false, .int .u64 0, .int .i64 0, .int .u64 0, .int .u64 0, .slice none 0 0] 33)
  obtain ⟨w0, ew0⟩ : ∃ w0, w.alloc (.cells #[.int .i64 0, .int .u64 0, .int .u64 0, .string ⟨#[]⟩, .int .i64 0, .int .u32 0, .int .u64 0, .int .u64 0, .int .i64 0, .int .i64 0, .bool false, .int .u64 0, .int .i64 0, .int .u64 0, .int .u64 0, .slice none 0 0] 33) = w0 := ⟨_, rfl⟩
  rw [ew0] at hx hb0
  have HX := Lib.hid hx
  have HB0 := Lib.hid hb0
  clear hx hb0
  go_enter Tryz.func17, Tryz.ntmps17
  go_wp2_with fail
  clear ew0
  refine (cmd_got_bad A n cap at_ w0 hn h).mono ?_
  rintro e w1 ⟨rfl, hb⟩
  have HX := Lib.hid (HX.out.below hb HX.out.lt)
  have HB := Lib.hid (HB0.out.trans (hb.mono HB0.out.size))
  clear hb
  go_wp2_with (refine wpl_store_blk rfl 33 (.tmp 4) (.tmp 10) rfl w.heap.size 33 #[.int .i64 0, .int .u64 0, .int .u64 0, .string ⟨#[]⟩, .int .i64 0, .int .u32 0, .int .u64 0, .int .u64 0, .int .i64 0, .int .i64 0, .bool false, .int .u64 0, .int .i64 0, .int .u64 0, .int .u64 0, .slice none 0 0] #[.int .i64 0, .int .u64 0, .int .u64 0, .string ⟨#[]⟩, .int .i64 0, .int .u32 0, .int .u64 0, .int .u64 0, .int .i64 0, .int .i64 0, .bool false, .int .u64 0, .int .i64 0, .int .u64 0, .int .u64 0, .slice none 0 0] rfl rfl HX.out rfl Tryz.sizeC rfl ?_; intro w2 hB hO)
  refine bodyPost_ret (v := .tuple #[.agg #[.int .i64 0, .int .u64 0, .int .u64 0, .string ⟨#[]⟩, .int .i64 0, .int .u32 0, .int .u64 0, .int .u64 0, .int .i64 0, .int .i64 0, .bool false, .int .u64 0, .int .i64 0, .int .u64 0, .int .u64 0, .slice none 0 0], .int .i64 0, .int .i64 2]) (res_ctt Tryz.results17 rfl rfl rfl (load_blk hB.out Tryz.underlying33 rfl Tryz.sizeC)) rfl ?_
  have HB := HB.out.trans (hO.out.below (Nat.le_refl _))
  exact ⟨rfl, HB⟩
set_option maxRecDepth 100000 in
set_option maxHeartbeats 2000000 in
theorem ent_read (A : Option Addr) (n cap : Nat) (bs : List Nat) (p : Nat) (w : World) (HI : Hid (InB w A n cap bs)) (hp : p ≤ n) :
    Calls Tryz.prog 5 #[.slice A n cap, .int .i64 (p : Int)] w (RetG (rEnt bs p) (vEnt w.heap.size) (.agg #[.int .u64 0, .int .u64 0, .int .i64 0, .int .i64 0, .int .u64 0, .int .u64 0, .string ⟨#[]⟩, .int .i64 0, .int .u32 0, .int .u64 0, .int .u64 0, .int .i64 0, .int .i64 0, .bool false, .int .u64 0, .int .i64 0, .int .u64 0, .int .u64 0, .slice none 0 0, .slice none 0 0, .slice none 0 0]) w) := by
  have hx := Blk.new w 38 #[.int .u64 0, .int .u64 0, .int .i64 0, .int .i64 0, .int .u64 0, .int .u64 0, .string ⟨#[]⟩, .int .i64 0, .int .u32 0, .int .u64 0, .int .u64 0, .int .i64 0, .int .i64 0, .bool false, .int .u64 0, .int .i64 0, .int .u64 0, .int .u64 0, .slice none 0 0, .slice none 0 0, .slice none 0 0]
  have hb0 := (Below.refl w.heap.size w).alloc (Nat.le_refl _) (.cells #[.int .u64 0, .int .u64 0, .int .i64 0, .int .i64 0, .int .u64 0, .int .u64 0, .string ⟨#[]⟩, .int .i64 0, .int .u32 0, .int .u64 0, .int .u64 0, .int .i64 0, .int .i64 0, .bool false, .int .u64 0, .int .i64 0, .int .u64 0, .int .u64 0, .slice none 0 0, .slice none 0 0, .slice none 0 0] 38)
  obtain ⟨w0, ew0⟩ : ∃ w0, w.alloc (.cells #[.int .u64 0, .int .u64 0, .int .i64 0, .int .i64 0, .int .u64 0, .int .u64 0, .string ⟨#[]⟩, .int .i64 0, .int .u32 0, .int .u64 0, .int .u64 0, .int .i64 0, .int .i64 0, .bool false, .int .u64 0, .int .i64 0, .int .u64 0, .int .u64 0, .slice none 0 0, .slice none 0 0, .slice none 0 0] 38) = w0 := ⟨_, rfl⟩
  rw [ew0] at hx hb0
  have HX := Lib.hid hx
  have HB0 := Lib.hid hb0
  clear hx hb0
  go_enter Tryz.func5, Tryz.ntmps5
  go_wp2_with fail
  clear ew0
  refine (ent_got A n cap bs p w0 (Lib.hid (HI.out.later HB0.out)) hp).mono ?_
  have HX0 := Lib.hid HX.out.lt
  cases hr : rEnt bs p with
  | none =>
    rintro e w1 ⟨hb, rfl⟩
    have HX := Lib.hid (HX.out.below hb HX.out.lt)
    have HB := Lib.hid (HB0.out.trans (hb.mono HB0.out.size))
    clear hb
    go_wp2_with (refine wpl_store_blk rfl 38 (.tmp 4) (.tmp 10) rfl w.heap.size 38 #[.int .u64 0, .int .u64 0, .int .i64 0, .int .i64 0, .int .u64 0, .int .u64 0, .string ⟨#[]⟩, .int .i64 0, .int .u32 0, .int .u64 0, .int .u64 0, .int .i64 0, .int .i64 0, .bool false, .int .u64 0, .int .i64 0, .int .u64 0, .int .u64 0, .slice none 0 0, .slice none 0 0, .slice none 0 0] #[.int .u64 0, .int .u64 0, .int .i64 0, .int .i64 0, .int .u64 0, .int .u64 0, .string ⟨#[]⟩, .int .i64 0, .int .u32 0, .int .u64 0, .int .u64 0, .int .i64 0, .int .i64 0, .bool false, .int .u64 0, .int .i64 0, .int .u64 0, .int .u64 0, .slice none 0 0, .slice none 0 0, .slice none 0 0] rfl rfl HX.out rfl Tryz.sizeE rfl ?_; intro w2 hB hO)
    refine bodyPost_ret (v := .tuple #[.agg #[.int .u64 0, .int .u64 0, .int .i64 0, .int .i64 0, .int .u64 0, .int .u64 0, .string ⟨#[]⟩, .int .i64 0, .int .u32 0, .int .u64 0, .int .u64 0, .int .i64 0, .int .i64 0, .bool false, .int .u64 0, .int .i64 0, .int .u64 0, .int .u64 0, .slice none 0 0, .slice none 0 0, .slice none 0 0], .int .i64 0, .int .i64 50]) (res_ctt Tryz.results5 rfl rfl rfl (load_blk hB.out Tryz.underlying38 rfl Tryz.sizeE)) rfl ?_
    have HB := HB.out.trans (hO.out.below (Nat.le_refl _))
    rw [hr]
    exact ⟨HB, rfl⟩
  | some x =>
    obtain ⟨x1, q1⟩ := x
    rintro e w1 ⟨hb, v, rfl, ⟨A1, c1, A2, c2, A3, c3, rfl, l1, l2, l3, b1⟩⟩
    have HX := Lib.hid (HX.out.below hb HX.out.lt)
    have HB := Lib.hid (HB0.out.trans (hb.mono HB0.out.size))
    have L1 := Lib.hid l1
    clear l1
    have L2 := Lib.hid l2
    clear l2
    have L3 := Lib.hid l3
    clear l3
    clear hb
    go_wp2_with (refine wpl_store_blk rfl 38 (.tmp 4) (.tmp 10) rfl w.heap.size 38 #[.int .u64 0, .int .u64 0, .int .i64 0, .int .i64 0, .int .u64 0, .int .u64 0, .string ⟨#[]⟩, .int .i64 0, .int .u32 0, .int .u64 0, .int .u64 0, .int .i64 0, .int .i64 0, .bool false, .int .u64 0, .int .i64 0, .int .u64 0, .int .u64 0, .slice none 0 0, .slice none 0 0, .slice none 0 0] (entCs x1 A1 c1 A2 c2 A3 c3) rfl rfl HX.out rfl Tryz.sizeE rfl ?_; intro w2 hB hO)
    refine bodyPost_ret (v := .tuple #[.agg (entCs x1 A1 c1 A2 c2 A3 c3), .int .i64 (q1 : Int), .int .i64 0]) (res_ctt Tryz.results5 rfl rfl rfl (load_blk hB.out Tryz.underlying38 rfl Tryz.sizeE)) rfl ?_
    have HB := HB.out.trans (hO.out.below (Nat.le_refl _))
    have L1 := Lib.hid (L1.out.only hO.out (L1.out.apart_lo HX0.out))
    have L2 := Lib.hid (L2.out.only hO.out (L2.out.apart_lo HX0.out))
    have L3 := Lib.hid (L3.out.only hO.out (L3.out.apart_lo HX0.out))
    rw [hr]
    exact ⟨HB, _, rfl, ⟨A1, c1, A2, c2, A3, c3, rfl, L1.out.mono (by have := HB0.out.size; omega), L2.out.mono (by have := HB0.out.size; omega), L3.out.mono (by have := HB0.out.size; omega), b1⟩⟩
set_option maxRecDepth 100000 in
set_option maxHeartbeats 2000000 in
theorem ent_read_bad (A : Option Addr) (n cap : Nat) (at_ : Int) (w : World) (hn : n ≤ 140737488351232) (h : at_ < 0 ∨ (n : Int) < at_) :
    Calls Tryz.prog 5 #[.slice A n cap, .int .i64 at_] w fun e w' => e = .returned (.tuple #[.agg #[.int .u64 0, .int .u64 0, .int .i64 0, .int .i64 0, .int .u64 0, .int .u64 0, .string ⟨#[]⟩, .int .i64 0, .int .u32 0, .int .u64 0, .int .u64 0, .int .i64 0, .int .i64 0, .bool false, .int .u64 0, .int .i64 0, .int .u64 0, .int .u64 0, .slice none 0 0, .slice none 0 0, .slice none 0 0], .int .i64 0, .int .i64 2]) ∧ Below w.heap.size w w' := by
  have hx := Blk.new w 38 #[.int .u64 0, .int .u64 0, .int .i64 0, .int .i64 0, .int .u64 0, .int .u64 0, .string ⟨#[]⟩, .int .i64 0, .int .u32 0, .int .u64 0, .int .u64 0, .int .i64 0, .int .i64 0, .bool false, .int .u64 0, .int .i64 0, .int .u64 0, .int .u64 0, .slice none 0 0, .slice none 0 0, .slice none 0 0]
  have hb0 := (Below.refl w.heap.size w).alloc (Nat.le_refl _) (.cells #[.int .u64 0, .int .u64 0, .int .i64 0, .int .i64 0, .int .u64 0, .int .u64 0, .string ⟨#[]⟩, .int .i64 0, .int .u32 0, .int .u64 0, .int .u64 0, .int .i64 0, .int .i64 0, .bool false, .int .u64 0, .int .i64 0, .int .u64 0, .int .u64 0, .slice none 0 0, .slice none 0 0, .slice none 0 0] 38)
  obtain ⟨w0, ew0⟩ : ∃ w0, w.alloc (.cells #[.int .u64 0, .int .u64 0, .int .i64 0, .int .i64 0, .int .u64 0, .int .u64 0, .string ⟨#[]⟩, .int .i64 0, .int .u32 0, .int .u64 0, .int .u64 0, .int .i64 0, .int .i64 0, .bool false, .int .u64 0, .int .i64 0, .int .u64 0, .int .u64 0, .slice none 0 0, .slice none 0 0, .slice none 0 0] 38) = w0 := ⟨_, rfl⟩
  rw [ew0] at hx hb0
  have HX := Lib.hid hx
  have HB0 := Lib.hid hb0
  clear hx hb0
  go_enter Tryz.func5, Tryz.ntmps5
  go_wp2_with fail
  clear ew0
  refine (ent_got_bad A n cap at_ w0 hn h).mono ?_
  rintro e w1 ⟨rfl, hb⟩
  have HX := Lib.hid (HX.out.below hb HX.out.lt)
  have HB := Lib.hid (HB0.out.trans (hb.mono HB0.out.size))
  clear hb
  go_wp2_with (refine wpl_store_blk rfl 38 (.tmp 4) (.tmp 10) rfl w.heap.size 38 #[.int .u64 0, .int .u64 0, .int .i64 0, .int .i64 0, .int .u64 0, .int .u64 0, .string ⟨#[]⟩, .int .i64 0, .int .u32 0, .int .u64 0, .int .u64 0, .int .i64 0, .int .i64 0, .bool false, .int .u64 0, .int .i64 0, .int .u64 0, .int .u64 0, .slice none 0 0, .slice none 0 0, .slice none 0 0] #[.int .u64 0, .int .u64 0, .int .i64 0, .int .i64 0, .int .u64 0, .int .u64 0, .string ⟨#[]⟩, .int .i64 0, .int .u32 0, .int .u64 0, .int .u64 0, .int .i64 0, .int .i64 0, .bool false, .int .u64 0, .int .i64 0, .int .u64 0, .int .u64 0, .slice none 0 0, .slice none 0 0, .slice none 0 0] rfl rfl HX.out rfl Tryz.sizeE rfl ?_; intro w2 hB hO)
  refine bodyPost_ret (v := .tuple #[.agg #[.int .u64 0, .int .u64 0, .int .i64 0, .int .i64 0, .int .u64 0, .int .u64 0, .string ⟨#[]⟩, .int .i64 0, .int .u32 0, .int .u64 0, .int .u64 0, .int .i64 0, .int .i64 0, .bool false, .int .u64 0, .int .i64 0, .int .u64 0, .int .u64 0, .slice none 0 0, .slice none 0 0, .slice none 0 0], .int .i64 0, .int .i64 2]) (res_ctt Tryz.results5 rfl rfl rfl (load_blk hB.out Tryz.underlying38 rfl Tryz.sizeE)) rfl ?_
  have HB := HB.out.trans (hO.out.below (Nat.le_refl _))
  exact ⟨rfl, HB⟩
end Go.Proofs.YthgiafjiemiifaaGreat
end
section
namespace Go.Proofs.YthgiafjiemiifaaGreat
open Go.RowKit OctMath
set_option linter.unusedVariables false
set_option linter.unusedSectionVars false
theorem hd0_ok : HdOk hd0 := by constructor <;> decide
theorem ints0_ok : IntsOk [] := ⟨fun y h => (List.not_mem_nil h).elim, by decide⟩
theorem cmd0_ok : CmdOk cmd0 := by
  constructor <;> first | decide | exact ⟨fun y h => (List.not_mem_nil h).elim, by decide⟩ | exact ⟨by decide, fun y h => (List.not_mem_nil h).elim, by decide⟩
theorem ent0_ok : EntOk ent0 := by
  constructor <;> first | decide | exact cmd0_ok | exact ⟨fun y h => (List.not_mem_nil h).elim, by decide⟩
end Go.Proofs.YthgiafjiemiifaaGreat
end
