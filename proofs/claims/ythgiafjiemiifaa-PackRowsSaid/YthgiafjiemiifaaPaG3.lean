/-
  THE PROGRAM'S READERS, exported. (printed by gen_pag3.py)
-/
import Derived.Test.YthgiafjiemiifaaPaG2
namespace Go.Proofs.Ythgiafjiemiifaa
open Go.RowKit OctMath
set_option linter.unusedVariables false
set_option linter.unusedSimpArgs false
theorem InB.later {w w' : World} {A : Option Addr} {n cap : Nat} {bs : List Nat} (h : InB w A n cap bs) (hb : Below w.heap.size w w') : InB w' A n cap bs := ⟨h.rd.later hb, h.byt, h.len, h.le, h.mx, h.reach⟩
section
variable {P : Program} {fn : Func} {tmps : Array Value} {a b c : Nat} {ty : TypeId} {p : Addr} {u v z : Value} {w : World}
theorem res_ctt (hr : fn.results = #[.cell a ty, .tmp b, .tmp c]) (ha : tmps.getD a undef = .pointer (some p)) (hb : tmps.getD b undef = v) (hc : tmps.getD c undef = z) (hl : (loadVar ty p).run P w = .ok u w) :
    (results fn tmps).run P w = .ok (.tuple #[u, v, z]) w := by
  simp only [Array.getD_eq_getD_getElem?] at ha hb hc
  simp [results, hr, ha, hb, hc, asAddr, hl]
end
set_option maxRecDepth 100000 in
set_option maxHeartbeats 2000000 in
theorem hd_read (A : Option Addr) (n cap : Nat) (bs : List Nat) (p : Nat) (w : World) (HI : Hid (InB w A n cap bs)) (hp : p ≤ n) :
    Calls Try.prog 5 #[.slice A n cap, .int .i64 (p : Int)] w (RetG (rHd bs p) vHd (.agg #[.int .u64 0, .int .i64 0, .int .u64 0, .int .i64 0, .int .i64 0, .int .i64 0, .int .u32 0]) w) := by
  have hx := Blk.new w 28 #[.int .u64 0, .int .i64 0, .int .u64 0, .int .i64 0, .int .i64 0, .int .i64 0, .int .u32 0]
  have hb0 := (Below.refl w.heap.size w).alloc (Nat.le_refl _) (.cells #[.int .u64 0, .int .i64 0, .int .u64 0, .int .i64 0, .int .i64 0, .int .i64 0, .int .u32 0] 28)
  obtain ⟨w0, ew0⟩ : ∃ w0, w.alloc (.cells #[.int .u64 0, .int .i64 0, .int .u64 0, .int .i64 0, .int .i64 0, .int .i64 0, .int .u32 0] 28) = w0 := ⟨_, rfl⟩
  rw [ew0] at hx hb0
  have HX := Lib.hid hx
  have HB0 := Lib.hid hb0
  clear hx hb0
  go_enter Try.func5, Try.ntmps5
  go_wp2_with fail
  clear ew0
  refine (hd_got A n cap bs p w0 (Lib.hid (HI.out.later HB0.out)) hp).mono ?_
  have HX0 := Lib.hid HX.out.lt
  cases hr : rHd bs p with
  | none =>
    rintro e w1 ⟨hb, rfl⟩
    have HX := Lib.hid (HX.out.below hb HX.out.lt)
    have HB := Lib.hid (HB0.out.trans (hb.mono HB0.out.size))
    clear hb
    go_wp2_with (refine wpl_store_blk rfl 28 (.tmp 4) (.tmp 10) rfl w.heap.size 28 #[.int .u64 0, .int .i64 0, .int .u64 0, .int .i64 0, .int .i64 0, .int .i64 0, .int .u32 0] #[.int .u64 0, .int .i64 0, .int .u64 0, .int .i64 0, .int .i64 0, .int .i64 0, .int .u32 0] rfl rfl HX.out rfl Try.sizeH rfl ?_; intro w2 hB hO)
    refine bodyPost_ret (v := .tuple #[.agg #[.int .u64 0, .int .i64 0, .int .u64 0, .int .i64 0, .int .i64 0, .int .i64 0, .int .u32 0], .int .i64 0, .int .i64 50]) (res_ctt Try.results5 rfl rfl rfl (load_blk hB.out Try.underlying28 rfl Try.sizeH)) rfl ?_
    have HB := HB.out.trans (hO.out.below (Nat.le_refl _))
    rw [hr]
    exact ⟨HB, rfl⟩
  | some x =>
    obtain ⟨x1, q1⟩ := x
    rintro e w1 ⟨hb, v, rfl, ⟨rfl, b1⟩⟩
    have HX := Lib.hid (HX.out.below hb HX.out.lt)
    have HB := Lib.hid (HB0.out.trans (hb.mono HB0.out.size))
    clear hb
    go_wp2_with (refine wpl_store_blk rfl 28 (.tmp 4) (.tmp 10) rfl w.heap.size 28 #[.int .u64 0, .int .i64 0, .int .u64 0, .int .i64 0, .int .i64 0, .int .i64 0, .int .u32 0] #[.int .u64 (x1.id.ver : Int), .int .i64 x1.id.idx, .int .u64 (x1.id.ep : Int), .int .i64 x1.k, .int .i64 x1.n, .int .i64 x1.size, .int .u32 (x1.sum : Int)] rfl rfl HX.out rfl Try.sizeH rfl ?_; intro w2 hB hO)
    refine bodyPost_ret (v := .tuple #[.agg #[.int .u64 (x1.id.ver : Int), .int .i64 x1.id.idx, .int .u64 (x1.id.ep : Int), .int .i64 x1.k, .int .i64 x1.n, .int .i64 x1.size, .int .u32 (x1.sum : Int)], .int .i64 (q1 : Int), .int .i64 0]) (res_ctt Try.results5 rfl rfl rfl (load_blk hB.out Try.underlying28 rfl Try.sizeH)) rfl ?_
    have HB := HB.out.trans (hO.out.below (Nat.le_refl _))
    rw [hr]
    exact ⟨HB, _, rfl, ⟨rfl, b1⟩⟩
set_option maxRecDepth 100000 in
set_option maxHeartbeats 2000000 in
theorem hd_read_bad (A : Option Addr) (n cap : Nat) (at_ : Int) (w : World) (hn : n ≤ 140737488351232) (h : at_ < 0 ∨ (n : Int) < at_) :
    Calls Try.prog 5 #[.slice A n cap, .int .i64 at_] w fun e w' => e = .returned (.tuple #[.agg #[.int .u64 0, .int .i64 0, .int .u64 0, .int .i64 0, .int .i64 0, .int .i64 0, .int .u32 0], .int .i64 0, .int .i64 2]) ∧ Below w.heap.size w w' := by
  have hx := Blk.new w 28 #[.int .u64 0, .int .i64 0, .int .u64 0, .int .i64 0, .int .i64 0, .int .i64 0, .int .u32 0]
  have hb0 := (Below.refl w.heap.size w).alloc (Nat.le_refl _) (.cells #[.int .u64 0, .int .i64 0, .int .u64 0, .int .i64 0, .int .i64 0, .int .i64 0, .int .u32 0] 28)
  obtain ⟨w0, ew0⟩ : ∃ w0, w.alloc (.cells #[.int .u64 0, .int .i64 0, .int .u64 0, .int .i64 0, .int .i64 0, .int .i64 0, .int .u32 0] 28) = w0 := ⟨_, rfl⟩
  rw [ew0] at hx hb0
  have HX := Lib.hid hx
  have HB0 := Lib.hid hb0
  clear hx hb0
  go_enter Try.func5, Try.ntmps5
  go_wp2_with fail
  clear ew0
  refine (hd_got_bad A n cap at_ w0 hn h).mono ?_
  rintro e w1 ⟨rfl, hb⟩
  have HX := Lib.hid (HX.out.below hb HX.out.lt)
  have HB := Lib.hid (HB0.out.trans (hb.mono HB0.out.size))
  clear hb
  go_wp2_with (refine wpl_store_blk rfl 28 (.tmp 4) (.tmp 10) rfl w.heap.size 28 #[.int .u64 0, .int .i64 0, .int .u64 0, .int .i64 0, .int .i64 0, .int .i64 0, .int .u32 0] #[.int .u64 0, .int .i64 0, .int .u64 0, .int .i64 0, .int .i64 0, .int .i64 0, .int .u32 0] rfl rfl HX.out rfl Try.sizeH rfl ?_; intro w2 hB hO)
  refine bodyPost_ret (v := .tuple #[.agg #[.int .u64 0, .int .i64 0, .int .u64 0, .int .i64 0, .int .i64 0, .int .i64 0, .int .u32 0], .int .i64 0, .int .i64 2]) (res_ctt Try.results5 rfl rfl rfl (load_blk hB.out Try.underlying28 rfl Try.sizeH)) rfl ?_
  have HB := HB.out.trans (hO.out.below (Nat.le_refl _))
  exact ⟨rfl, HB⟩
set_option maxRecDepth 100000 in
set_option maxHeartbeats 2000000 in
theorem conf_read (A : Option Addr) (n cap : Nat) (bs : List Nat) (p : Nat) (w : World) (HI : Hid (InB w A n cap bs)) (hp : p ≤ n) :
    Calls Try.prog 9 #[.slice A n cap, .int .i64 (p : Int)] w (RetG (rConf bs p) (vConf w.heap.size) (.agg #[.slice none 0 0, .slice none 0 0]) w) := by
  have hx := Blk.new w 38 #[.slice none 0 0, .slice none 0 0]
  have hb0 := (Below.refl w.heap.size w).alloc (Nat.le_refl _) (.cells #[.slice none 0 0, .slice none 0 0] 38)
  obtain ⟨w0, ew0⟩ : ∃ w0, w.alloc (.cells #[.slice none 0 0, .slice none 0 0] 38) = w0 := ⟨_, rfl⟩
  rw [ew0] at hx hb0
  have HX := Lib.hid hx
  have HB0 := Lib.hid hb0
  clear hx hb0
  go_enter Try.func9, Try.ntmps9
  go_wp2_with fail
  clear ew0
  refine (conf_got A n cap bs p w0 (Lib.hid (HI.out.later HB0.out)) hp).mono ?_
  have HX0 := Lib.hid HX.out.lt
  cases hr : rConf bs p with
  | none =>
    rintro e w1 ⟨hb, rfl⟩
    have HX := Lib.hid (HX.out.below hb HX.out.lt)
    have HB := Lib.hid (HB0.out.trans (hb.mono HB0.out.size))
    clear hb
    go_wp2_with (refine wpl_store_blk rfl 38 (.tmp 4) (.tmp 10) rfl w.heap.size 38 #[.slice none 0 0, .slice none 0 0] #[.slice none 0 0, .slice none 0 0] rfl rfl HX.out rfl Try.sizeF rfl ?_; intro w2 hB hO)
    refine bodyPost_ret (v := .tuple #[.agg #[.slice none 0 0, .slice none 0 0], .int .i64 0, .int .i64 50]) (res_ctt Try.results9 rfl rfl rfl (load_blk hB.out Try.underlying38 rfl Try.sizeF)) rfl ?_
    have HB := HB.out.trans (hO.out.below (Nat.le_refl _))
    rw [hr]
    exact ⟨HB, rfl⟩
  | some x =>
    obtain ⟨x1, q1⟩ := x
    rintro e w1 ⟨hb, v, rfl, ⟨A1, c1, A2, c2, rfl, l1, l2, b1, b2⟩⟩
    have HX := Lib.hid (HX.out.below hb HX.out.lt)
    have HB := Lib.hid (HB0.out.trans (hb.mono HB0.out.size))
    have L1 := Lib.hid l1
    clear l1
    have L2 := Lib.hid l2
    clear l2
    clear hb
    go_wp2_with (refine wpl_store_blk rfl 38 (.tmp 4) (.tmp 10) rfl w.heap.size 38 #[.slice none 0 0, .slice none 0 0] #[.slice A1 x1.1.length c1, .slice A2 x1.2.length c2] rfl rfl HX.out rfl Try.sizeF rfl ?_; intro w2 hB hO)
    refine bodyPost_ret (v := .tuple #[.agg #[.slice A1 x1.1.length c1, .slice A2 x1.2.length c2], .int .i64 (q1 : Int), .int .i64 0]) (res_ctt Try.results9 rfl rfl rfl (load_blk hB.out Try.underlying38 rfl Try.sizeF)) rfl ?_
    have HB := HB.out.trans (hO.out.below (Nat.le_refl _))
    have L1 := Lib.hid (L1.out.only hO.out (L1.out.apart_lo HX0.out))
    have L2 := Lib.hid (L2.out.only hO.out (L2.out.apart_lo HX0.out))
    rw [hr]
    exact ⟨HB, _, rfl, ⟨A1, c1, A2, c2, rfl, L1.out.mono (by have := HB0.out.size; omega), L2.out.mono (by have := HB0.out.size; omega), b1, b2⟩⟩
set_option maxRecDepth 100000 in
set_option maxHeartbeats 2000000 in
theorem conf_read_bad (A : Option Addr) (n cap : Nat) (at_ : Int) (w : World) (hn : n ≤ 140737488351232) (h : at_ < 0 ∨ (n : Int) < at_) :
    Calls Try.prog 9 #[.slice A n cap, .int .i64 at_] w fun e w' => e = .returned (.tuple #[.agg #[.slice none 0 0, .slice none 0 0], .int .i64 0, .int .i64 2]) ∧ Below w.heap.size w w' := by
  have hx := Blk.new w 38 #[.slice none 0 0, .slice none 0 0]
  have hb0 := (Below.refl w.heap.size w).alloc (Nat.le_refl _) (.cells #[.slice none 0 0, .slice none 0 0] 38)
  obtain ⟨w0, ew0⟩ : ∃ w0, w.alloc (.cells #[.slice none 0 0, .slice none 0 0] 38) = w0 := ⟨_, rfl⟩
  rw [ew0] at hx hb0
  have HX := Lib.hid hx
  have HB0 := Lib.hid hb0
  clear hx hb0
  go_enter Try.func9, Try.ntmps9
  go_wp2_with fail
  clear ew0
  refine (conf_got_bad A n cap at_ w0 hn h).mono ?_
  rintro e w1 ⟨rfl, hb⟩
  have HX := Lib.hid (HX.out.below hb HX.out.lt)
  have HB := Lib.hid (HB0.out.trans (hb.mono HB0.out.size))
  clear hb
  go_wp2_with (refine wpl_store_blk rfl 38 (.tmp 4) (.tmp 10) rfl w.heap.size 38 #[.slice none 0 0, .slice none 0 0] #[.slice none 0 0, .slice none 0 0] rfl rfl HX.out rfl Try.sizeF rfl ?_; intro w2 hB hO)
  refine bodyPost_ret (v := .tuple #[.agg #[.slice none 0 0, .slice none 0 0], .int .i64 0, .int .i64 2]) (res_ctt Try.results9 rfl rfl rfl (load_blk hB.out Try.underlying38 rfl Try.sizeF)) rfl ?_
  have HB := HB.out.trans (hO.out.below (Nat.le_refl _))
  exact ⟨rfl, HB⟩
set_option maxRecDepth 100000 in
set_option maxHeartbeats 2000000 in
theorem map_read (A : Option Addr) (n cap : Nat) (bs : List Nat) (p : Nat) (w : World) (HI : Hid (InB w A n cap bs)) (hp : p ≤ n) :
    Calls Try.prog 13 #[.slice A n cap, .int .i64 (p : Int)] w (RetG (rMap bs p) (vMap w.heap.size) (.agg #[.int .u64 0, .slice none 0 0]) w) := by
  have hx := Blk.new w 47 #[.int .u64 0, .slice none 0 0]
  have hb0 := (Below.refl w.heap.size w).alloc (Nat.le_refl _) (.cells #[.int .u64 0, .slice none 0 0] 47)
  obtain ⟨w0, ew0⟩ : ∃ w0, w.alloc (.cells #[.int .u64 0, .slice none 0 0] 47) = w0 := ⟨_, rfl⟩
  rw [ew0] at hx hb0
  have HX := Lib.hid hx
  have HB0 := Lib.hid hb0
  clear hx hb0
  go_enter Try.func13, Try.ntmps13
  go_wp2_with fail
  clear ew0
  refine (map_got A n cap bs p w0 (Lib.hid (HI.out.later HB0.out)) hp).mono ?_
  have HX0 := Lib.hid HX.out.lt
  cases hr : rMap bs p with
  | none =>
    rintro e w1 ⟨hb, rfl⟩
    have HX := Lib.hid (HX.out.below hb HX.out.lt)
    have HB := Lib.hid (HB0.out.trans (hb.mono HB0.out.size))
    clear hb
    go_wp2_with (refine wpl_store_blk rfl 47 (.tmp 4) (.tmp 10) rfl w.heap.size 47 #[.int .u64 0, .slice none 0 0] #[.int .u64 0, .slice none 0 0] rfl rfl HX.out rfl Try.sizeMa rfl ?_; intro w2 hB hO)
    refine bodyPost_ret (v := .tuple #[.agg #[.int .u64 0, .slice none 0 0], .int .i64 0, .int .i64 50]) (res_ctt Try.results13 rfl rfl rfl (load_blk hB.out Try.underlying47 rfl Try.sizeMa)) rfl ?_
    have HB := HB.out.trans (hO.out.below (Nat.le_refl _))
    rw [hr]
    exact ⟨HB, rfl⟩
  | some x =>
    obtain ⟨x1, q1⟩ := x
    rintro e w1 ⟨hb, v, rfl, ⟨A1, c1, rfl, l1, b1⟩⟩
    have HX := Lib.hid (HX.out.below hb HX.out.lt)
    have HB := Lib.hid (HB0.out.trans (hb.mono HB0.out.size))
    have L1 := Lib.hid l1
    clear l1
    clear hb
    go_wp2_with (refine wpl_store_blk rfl 47 (.tmp 4) (.tmp 10) rfl w.heap.size 47 #[.int .u64 0, .slice none 0 0] #[.int .u64 (x1.1 : Int), .slice A1 x1.2.length c1] rfl rfl HX.out rfl Try.sizeMa rfl ?_; intro w2 hB hO)
    refine bodyPost_ret (v := .tuple #[.agg #[.int .u64 (x1.1 : Int), .slice A1 x1.2.length c1], .int .i64 (q1 : Int), .int .i64 0]) (res_ctt Try.results13 rfl rfl rfl (load_blk hB.out Try.underlying47 rfl Try.sizeMa)) rfl ?_
    have HB := HB.out.trans (hO.out.below (Nat.le_refl _))
    have L1 := Lib.hid (L1.out.only hO.out (L1.out.apart_lo HX0.out))
    rw [hr]
    exact ⟨HB, _, rfl, ⟨A1, c1, rfl, L1.out.mono (by have := HB0.out.size; omega), b1⟩⟩
set_option maxRecDepth 100000 in
set_option maxHeartbeats 2000000 in
theorem map_read_bad (A : Option Addr) (n cap : Nat) (at_ : Int) (w : World) (hn : n ≤ 140737488351232) (h : at_ < 0 ∨ (n : Int) < at_) :
    Calls Try.prog 13 #[.slice A n cap, .int .i64 at_] w fun e w' => e = .returned (.tuple #[.agg #[.int .u64 0, .slice none 0 0], .int .i64 0, .int .i64 2]) ∧ Below w.heap.size w w' := by
  have hx := Blk.new w 47 #[.int .u64 0, .slice none 0 0]
  have hb0 := (Below.refl w.heap.size w).alloc (Nat.le_refl _) (.cells #[.int .u64 0, .slice none 0 0] 47)
  obtain ⟨w0, ew0⟩ : ∃ w0, w.alloc (.cells #[.int .u64 0, .slice none 0 0] 47) = w0 := ⟨_, rfl⟩
  rw [ew0] at hx hb0
  have HX := Lib.hid hx
  have HB0 := Lib.hid hb0
  clear hx hb0
  go_enter Try.func13, Try.ntmps13
  go_wp2_with fail
  clear ew0
  refine (map_got_bad A n cap at_ w0 hn h).mono ?_
  rintro e w1 ⟨rfl, hb⟩
  have HX := Lib.hid (HX.out.below hb HX.out.lt)
  have HB := Lib.hid (HB0.out.trans (hb.mono HB0.out.size))
  clear hb
  go_wp2_with (refine wpl_store_blk rfl 47 (.tmp 4) (.tmp 10) rfl w.heap.size 47 #[.int .u64 0, .slice none 0 0] #[.int .u64 0, .slice none 0 0] rfl rfl HX.out rfl Try.sizeMa rfl ?_; intro w2 hB hO)
  refine bodyPost_ret (v := .tuple #[.agg #[.int .u64 0, .slice none 0 0], .int .i64 0, .int .i64 2]) (res_ctt Try.results13 rfl rfl rfl (load_blk hB.out Try.underlying47 rfl Try.sizeMa)) rfl ?_
  have HB := HB.out.trans (hO.out.below (Nat.le_refl _))
  exact ⟨rfl, HB⟩
set_option maxRecDepth 100000 in
set_option maxHeartbeats 2000000 in
theorem cmd_read (A : Option Addr) (n cap : Nat) (bs : List Nat) (p : Nat) (w : World) (HI : Hid (InB w A n cap bs)) (hp : p ≤ n) :
    Calls Try.prog 17 #[.slice A n cap, .int .i64 (p : Int)] w (RetG (rCmd bs p) (vCmd w.heap.size) (.agg #[.int .i64 0, .int .u64 0, .int .u64 0, .string ⟨#[]⟩, .int .i64 0, .int .u32 0, .int .u64 0, .int .u64 0, .int .i64 0, .int .i64 0, .bool false, .int .u64 0, .int .i64 0, .int .u64 0, .int .u64 0, .slice none 0 0]) w) := by
  have hx := Blk.new w 56 #[.int .i64 0, .int .u64 0, .int .u64 0, .string ⟨#[]⟩, .int .i64 0, .int .u32 0, .int .u64 0, .int .u64 0, .int .i64 0, .int .i64 0, .bool false, .int .u64 0, .int .i64 0, .int .u64 0, .int .u64 0, .slice none 0 0]
  have hb0 := (Below.refl w.heap.size w).alloc (Nat.le_refl _) (.cells #[.int .i64 0, .int .u64 0, .int .u64 0, .string ⟨#[]⟩, .int .i64 0, .int .u32 0, .int .u64 0, .int .u64 0, .int .i64 0, .int .i64 0, .bool false, .int .u64 0, .int .i64 0, .int .u64 0, .int .u64 0, .slice none 0 0] 56)
  obtain ⟨w0, ew0⟩ : ∃ w0, w.alloc (.cells #[.int .i64 0, .int .u64 0, .int .u64 0, .string ⟨#[]⟩, .int .i64 0, .int .u32 0, .int .u64 0, .int .u64 0, .int .i64 0, .int .i64 0, .bool false, .int .u64 0, .int .i64 0, .int .u64 0, .int .u64 0, .slice none 0 0] 56) = w0 := ⟨_, rfl⟩
  rw [ew0] at hx hb0
  have HX := Lib.hid hx
  have HB0 := Lib.hid hb0
  clear hx hb0
  go_enter Try.func17, Try.ntmps17
  go_wp2_with fail
  clear ew0
  refine (cmd_got A n cap bs p w0 (Lib.hid (HI.out.later HB0.out)) hp).mono ?_
  have HX0 := Lib.hid HX.out.lt
  cases hr : rCmd bs p with
  | none =>
    rintro e w1 ⟨hb, rfl⟩
    have HX := Lib.hid (HX.out.below hb HX.out.lt)
    have HB := Lib.hid (HB0.out.trans (hb.mono HB0.out.size))
    clear hb
    go_wp2_with (refine wpl_store_blk rfl 56 (.tmp 4) (.tmp 10) rfl w.heap.size 56 #[.int .i64 0, .int .u64 0, .int .u64 0, .string ⟨#[]⟩, .int .i64 0, .int .u32 0, .int .u64 0, .int .u64 0, .int .i64 0, .int .i64 0, .bool false, .int .u64 0, .int .i64 0, .int .u64 0, .int .u64 0, .slice none 0 0] #[.int .i64 0, .int .u64 0, .int .u64 0, .string ⟨#[]⟩, .int .i64 0, .int .u32 0, .int .u64 0, .int .u64 0, .int .i64 0, .int .i64 0, .bool false, .int .u64 0, .int .i64 0, .int .u64 0, .int .u64 0, .slice none 0 0] rfl rfl HX.out rfl Try.sizeC rfl ?_; intro w2 hB hO)
    refine bodyPost_ret (v := .tuple #[.agg #[.int .i64 0, .int .u64 0, .int .u64 0, .string ⟨#[]⟩, .int .i64 0, .int .u32 0, .int .u64 0, .int .u64 0, .int .i64 0, .int .i64 0, .bool false, .int .u64 0, .int .i64 0, .int .u64 0, .int .u64 0, .slice none 0 0], .int .i64 0, .int .i64 50]) (res_ctt Try.results17 rfl rfl rfl (load_blk hB.out Try.underlying56 rfl Try.sizeC)) rfl ?_
    have HB := HB.out.trans (hO.out.below (Nat.le_refl _))
    rw [hr]
    exact ⟨HB, rfl⟩
  | some x =>
    obtain ⟨x1, q1⟩ := x
    rintro e w1 ⟨hb, v, rfl, ⟨A1, c1, rfl, l1, b1⟩⟩
    have HX := Lib.hid (HX.out.below hb HX.out.lt)
    have HB := Lib.hid (HB0.out.trans (hb.mono HB0.out.size))
    have L1 := Lib.hid l1
    clear l1
    clear hb
    go_wp2_with (refine wpl_store_blk rfl 56 (.tmp 4) (.tmp 10) rfl w.heap.size 56 #[.int .i64 0, .int .u64 0, .int .u64 0, .string ⟨#[]⟩, .int .i64 0, .int .u32 0, .int .u64 0, .int .u64 0, .int .i64 0, .int .i64 0, .bool false, .int .u64 0, .int .i64 0, .int .u64 0, .int .u64 0, .slice none 0 0] (cmdCs x1 A1 c1) rfl rfl HX.out rfl Try.sizeC rfl ?_; intro w2 hB hO)
    refine bodyPost_ret (v := .tuple #[.agg (cmdCs x1 A1 c1), .int .i64 (q1 : Int), .int .i64 0]) (res_ctt Try.results17 rfl rfl rfl (load_blk hB.out Try.underlying56 rfl Try.sizeC)) rfl ?_
    have HB := HB.out.trans (hO.out.below (Nat.le_refl _))
    have L1 := Lib.hid (L1.out.only hO.out (L1.out.apart_lo HX0.out))
    rw [hr]
    exact ⟨HB, _, rfl, ⟨A1, c1, rfl, L1.out.mono (by have := HB0.out.size; omega), b1⟩⟩
set_option maxRecDepth 100000 in
set_option maxHeartbeats 2000000 in
theorem cmd_read_bad (A : Option Addr) (n cap : Nat) (at_ : Int) (w : World) (hn : n ≤ 140737488351232) (h : at_ < 0 ∨ (n : Int) < at_) :
    Calls Try.prog 17 #[.slice A n cap, .int .i64 at_] w fun e w' => e = .returned (.tuple #[.agg #[.int .i64 0, .int .u64 0, .int .u64 0, .string ⟨#[]⟩, .int .i64 0, .int .u32 0, .int .u64 0, .int .u64 0, .int .i64 0, .int .i64 0, .bool false, .int .u64 0, .int .i64 0, .int .u64 0, .int .u64 0, .slice none 0 0], .int .i64 0, .int .i64 2]) ∧ Below w.heap.size w w' := by
  have hx := Blk.new w 56 #[.int .i64 0, .int .u64 0, .int .u64 0, .string ⟨#[]⟩, .int .i64 0, .int .u32 0, .int .u64 0, .int .u64 0, .int .i64 0, .int .i64 0, .bool false, .int .u64 0, .int .i64 0, .int .u64 0, .int .u64 0, .slice none 0 0]
  have hb0 := (Below.refl w.heap.size w).alloc (Nat.le_refl _) (.cells #[.int .i64 0, .int .u64 0, .int .u64 0, .string ⟨#[]⟩, .int .i64 0, .int .u32 0, .int .u64 0, .int .u64 0, .int .i64 0, .int .i64 0, .bool false, .int .u64 0, .int .i64 0, .int .u64 0, .int .u64 0, .slice none 0 0] 56)
  obtain ⟨w0, ew0⟩ : ∃ w0, w.alloc (.cells #[.int .i64 0, .int .u64 0, .int .u64 0, .string ⟨#[]⟩, .int .i64 0, .int .u32 0, .int .u64 0, .int .u64 0, .int .i64 0, .int .i64 0, .bool false, .int .u64 0, .int .i64 0, .int .u64 0, .int .u64 0, .slice none 0 0] 56) = w0 := ⟨_, rfl⟩
  rw [ew0] at hx hb0
  have HX := Lib.hid hx
  have HB0 := Lib.hid hb0
  clear hx hb0
  go_enter Try.func17, Try.ntmps17
  go_wp2_with fail
  clear ew0
  refine (cmd_got_bad A n cap at_ w0 hn h).mono ?_
  rintro e w1 ⟨rfl, hb⟩
  have HX := Lib.hid (HX.out.below hb HX.out.lt)
  have HB := Lib.hid (HB0.out.trans (hb.mono HB0.out.size))
  clear hb
  go_wp2_with (refine wpl_store_blk rfl 56 (.tmp 4) (.tmp 10) rfl w.heap.size 56 #[.int .i64 0, .int .u64 0, .int .u64 0, .string ⟨#[]⟩, .int .i64 0, .int .u32 0, .int .u64 0, .int .u64 0, .int .i64 0, .int .i64 0, .bool false, .int .u64 0, .int .i64 0, .int .u64 0, .int .u64 0, .slice none 0 0] #[.int .i64 0, .int .u64 0, .int .u64 0, .string ⟨#[]⟩, .int .i64 0, .int .u32 0, .int .u64 0, .int .u64 0, .int .i64 0, .int .i64 0, .bool false, .int .u64 0, .int .i64 0, .int .u64 0, .int .u64 0, .slice none 0 0] rfl rfl HX.out rfl Try.sizeC rfl ?_; intro w2 hB hO)
  refine bodyPost_ret (v := .tuple #[.agg #[.int .i64 0, .int .u64 0, .int .u64 0, .string ⟨#[]⟩, .int .i64 0, .int .u32 0, .int .u64 0, .int .u64 0, .int .i64 0, .int .i64 0, .bool false, .int .u64 0, .int .i64 0, .int .u64 0, .int .u64 0, .slice none 0 0], .int .i64 0, .int .i64 2]) (res_ctt Try.results17 rfl rfl rfl (load_blk hB.out Try.underlying56 rfl Try.sizeC)) rfl ?_
  have HB := HB.out.trans (hO.out.below (Nat.le_refl _))
  exact ⟨rfl, HB⟩
set_option maxRecDepth 100000 in
set_option maxHeartbeats 2000000 in
theorem ent_read (A : Option Addr) (n cap : Nat) (bs : List Nat) (p : Nat) (w : World) (HI : Hid (InB w A n cap bs)) (hp : p ≤ n) :
    Calls Try.prog 23 #[.slice A n cap, .int .i64 (p : Int)] w (RetG (rEnt bs p) (vEnt w.heap.size) (.agg #[.int .u64 0, .int .u64 0, .int .i64 0, .int .i64 0, .int .u64 0, .int .u64 0, .string ⟨#[]⟩, .int .i64 0, .int .u32 0, .int .u64 0, .int .u64 0, .int .i64 0, .int .i64 0, .bool false, .int .u64 0, .int .i64 0, .int .u64 0, .int .u64 0, .slice none 0 0, .slice none 0 0, .slice none 0 0]) w) := by
  have hx := Blk.new w 68 #[.int .u64 0, .int .u64 0, .int .i64 0, .int .i64 0, .int .u64 0, .int .u64 0, .string ⟨#[]⟩, .int .i64 0, .int .u32 0, .int .u64 0, .int .u64 0, .int .i64 0, .int .i64 0, .bool false, .int .u64 0, .int .i64 0, .int .u64 0, .int .u64 0, .slice none 0 0, .slice none 0 0, .slice none 0 0]
  have hb0 := (Below.refl w.heap.size w).alloc (Nat.le_refl _) (.cells #[.int .u64 0, .int .u64 0, .int .i64 0, .int .i64 0, .int .u64 0, .int .u64 0, .string ⟨#[]⟩, .int .i64 0, .int .u32 0, .int .u64 0, .int .u64 0, .int .i64 0, .int .i64 0, .bool false, .int .u64 0, .int .i64 0, .int .u64 0, .int .u64 0, .slice none 0 0, .slice none 0 0, .slice none 0 0] 68)
  obtain ⟨w0, ew0⟩ : ∃ w0, w.alloc (.cells #[.int .u64 0, .int .u64 0, .int .i64 0, .int .i64 0, .int .u64 0, .int .u64 0, .string ⟨#[]⟩, .int .i64 0, .int .u32 0, .int .u64 0, .int .u64 0, .int .i64 0, .int .i64 0, .bool false, .int .u64 0, .int .i64 0, .int .u64 0, .int .u64 0, .slice none 0 0, .slice none 0 0, .slice none 0 0] 68) = w0 := ⟨_, rfl⟩
  rw [ew0] at hx hb0
  have HX := Lib.hid hx
  have HB0 := Lib.hid hb0
  clear hx hb0
  go_enter Try.func23, Try.ntmps23
  go_wp2_with fail
  clear ew0
  refine (ent_got A n cap bs p w0 (Lib.hid (HI.out.later HB0.out)) hp).mono ?_
  have HX0 := Lib.hid HX.out.lt
  cases hr : rEnt bs p with
  | none =>
    rintro e w1 ⟨hb, rfl⟩
    have HX := Lib.hid (HX.out.below hb HX.out.lt)
    have HB := Lib.hid (HB0.out.trans (hb.mono HB0.out.size))
    clear hb
    go_wp2_with (refine wpl_store_blk rfl 68 (.tmp 4) (.tmp 10) rfl w.heap.size 68 #[.int .u64 0, .int .u64 0, .int .i64 0, .int .i64 0, .int .u64 0, .int .u64 0, .string ⟨#[]⟩, .int .i64 0, .int .u32 0, .int .u64 0, .int .u64 0, .int .i64 0, .int .i64 0, .bool false, .int .u64 0, .int .i64 0, .int .u64 0, .int .u64 0, .slice none 0 0, .slice none 0 0, .slice none 0 0] #[.int .u64 0, .int .u64 0, .int .i64 0, .int .i64 0, .int .u64 0, .int .u64 0, .string ⟨#[]⟩, .int .i64 0, .int .u32 0, .int .u64 0, .int .u64 0, .int .i64 0, .int .i64 0, .bool false, .int .u64 0, .int .i64 0, .int .u64 0, .int .u64 0, .slice none 0 0, .slice none 0 0, .slice none 0 0] rfl rfl HX.out rfl Try.sizeE rfl ?_; intro w2 hB hO)
    refine bodyPost_ret (v := .tuple #[.agg #[.int .u64 0, .int .u64 0, .int .i64 0, .int .i64 0, .int .u64 0, .int .u64 0, .string ⟨#[]⟩, .int .i64 0, .int .u32 0, .int .u64 0, .int .u64 0, .int .i64 0, .int .i64 0, .bool false, .int .u64 0, .int .i64 0, .int .u64 0, .int .u64 0, .slice none 0 0, .slice none 0 0, .slice none 0 0], .int .i64 0, .int .i64 50]) (res_ctt Try.results23 rfl rfl rfl (load_blk hB.out Try.underlying68 rfl Try.sizeE)) rfl ?_
    have HB := HB.out.trans (hO.out.below (Nat.le_refl _))
    rw [hr]
    exact ⟨HB, rfl⟩
  | some x =>
    obtain ⟨x1, q1⟩ := x
    rintro e w1 ⟨hb, v, rfl, ⟨A1, c1, A2, c2, A3, c3, rfl, l1, l2, l3, b1⟩⟩
    have HX := Lib.hid (HX.out.below hb HX.out.lt)
    have HB := Lib.hid (HB0.out.trans (hb.mono HB0.out.size))
    have L1 := Lib.hid l1
    clear l1
    have L2 := Lib.hid l2
    clear l2
    have L3 := Lib.hid l3
    clear l3
    clear hb
    go_wp2_with (refine wpl_store_blk rfl 68 (.tmp 4) (.tmp 10) rfl w.heap.size 68 #[.int .u64 0, .int .u64 0, .int .i64 0, .int .i64 0, .int .u64 0, .int .u64 0, .string ⟨#[]⟩, .int .i64 0, .int .u32 0, .int .u64 0, .int .u64 0, .int .i64 0, .int .i64 0, .bool false, .int .u64 0, .int .i64 0, .int .u64 0, .int .u64 0, .slice none 0 0, .slice none 0 0, .slice none 0 0] (entCs x1 A1 c1 A2 c2 A3 c3) rfl rfl HX.out rfl Try.sizeE rfl ?_; intro w2 hB hO)
    refine bodyPost_ret (v := .tuple #[.agg (entCs x1 A1 c1 A2 c2 A3 c3), .int .i64 (q1 : Int), .int .i64 0]) (res_ctt Try.results23 rfl rfl rfl (load_blk hB.out Try.underlying68 rfl Try.sizeE)) rfl ?_
    have HB := HB.out.trans (hO.out.below (Nat.le_refl _))
    have L1 := Lib.hid (L1.out.only hO.out (L1.out.apart_lo HX0.out))
    have L2 := Lib.hid (L2.out.only hO.out (L2.out.apart_lo HX0.out))
    have L3 := Lib.hid (L3.out.only hO.out (L3.out.apart_lo HX0.out))
    rw [hr]
    exact ⟨HB, _, rfl, ⟨A1, c1, A2, c2, A3, c3, rfl, L1.out.mono (by have := HB0.out.size; omega), L2.out.mono (by have := HB0.out.size; omega), L3.out.mono (by have := HB0.out.size; omega), b1⟩⟩
set_option maxRecDepth 100000 in
set_option maxHeartbeats 2000000 in
theorem ent_read_bad (A : Option Addr) (n cap : Nat) (at_ : Int) (w : World) (hn : n ≤ 140737488351232) (h : at_ < 0 ∨ (n : Int) < at_) :
    Calls Try.prog 23 #[.slice A n cap, .int .i64 at_] w fun e w' => e = .returned (.tuple #[.agg #[.int .u64 0, .int .u64 0, .int .i64 0, .int .i64 0, .int .u64 0, .int .u64 0, .string ⟨#[]⟩, .int .i64 0, .int .u32 0, .int .u64 0, .int .u64 0, .int .i64 0, .int .i64 0, .bool false, .int .u64 0, .int .i64 0, .int .u64 0, .int .u64 0, .slice none 0 0, .slice none 0 0, .slice none 0 0], .int .i64 0, .int .i64 2]) ∧ Below w.heap.size w w' := by
  have hx := Blk.new w 68 #[.int .u64 0, .int .u64 0, .int .i64 0, .int .i64 0, .int .u64 0, .int .u64 0, .string ⟨#[]⟩, .int .i64 0, .int .u32 0, .int .u64 0, .int .u64 0, .int .i64 0, .int .i64 0, .bool false, .int .u64 0, .int .i64 0, .int .u64 0, .int .u64 0, .slice none 0 0, .slice none 0 0, .slice none 0 0]
  have hb0 := (Below.refl w.heap.size w).alloc (Nat.le_refl _) (.cells #[.int .u64 0, .int .u64 0, .int .i64 0, .int .i64 0, .int .u64 0, .int .u64 0, .string ⟨#[]⟩, .int .i64 0, .int .u32 0, .int .u64 0, .int .u64 0, .int .i64 0, .int .i64 0, .bool false, .int .u64 0, .int .i64 0, .int .u64 0, .int .u64 0, .slice none 0 0, .slice none 0 0, .slice none 0 0] 68)
  obtain ⟨w0, ew0⟩ : ∃ w0, w.alloc (.cells #[.int .u64 0, .int .u64 0, .int .i64 0, .int .i64 0, .int .u64 0, .int .u64 0, .string ⟨#[]⟩, .int .i64 0, .int .u32 0, .int .u64 0, .int .u64 0, .int .i64 0, .int .i64 0, .bool false, .int .u64 0, .int .i64 0, .int .u64 0, .int .u64 0, .slice none 0 0, .slice none 0 0, .slice none 0 0] 68) = w0 := ⟨_, rfl⟩
  rw [ew0] at hx hb0
  have HX := Lib.hid hx
  have HB0 := Lib.hid hb0
  clear hx hb0
  go_enter Try.func23, Try.ntmps23
  go_wp2_with fail
  clear ew0
  refine (ent_got_bad A n cap at_ w0 hn h).mono ?_
  rintro e w1 ⟨rfl, hb⟩
  have HX := Lib.hid (HX.out.below hb HX.out.lt)
  have HB := Lib.hid (HB0.out.trans (hb.mono HB0.out.size))
  clear hb
  go_wp2_with (refine wpl_store_blk rfl 68 (.tmp 4) (.tmp 10) rfl w.heap.size 68 #[.int .u64 0, .int .u64 0, .int .i64 0, .int .i64 0, .int .u64 0, .int .u64 0, .string ⟨#[]⟩, .int .i64 0, .int .u32 0, .int .u64 0, .int .u64 0, .int .i64 0, .int .i64 0, .bool false, .int .u64 0, .int .i64 0, .int .u64 0, .int .u64 0, .slice none 0 0, .slice none 0 0, .slice none 0 0] #[.int .u64 0, .int .u64 0, .int .i64 0, .int .i64 0, .int .u64 0, .int .u64 0, .string ⟨#[]⟩, .int .i64 0, .int .u32 0, .int .u64 0, .int .u64 0, .int .i64 0, .int .i64 0, .bool false, .int .u64 0, .int .i64 0, .int .u64 0, .int .u64 0, .slice none 0 0, .slice none 0 0, .slice none 0 0] rfl rfl HX.out rfl Try.sizeE rfl ?_; intro w2 hB hO)
  refine bodyPost_ret (v := .tuple #[.agg #[.int .u64 0, .int .u64 0, .int .i64 0, .int .i64 0, .int .u64 0, .int .u64 0, .string ⟨#[]⟩, .int .i64 0, .int .u32 0, .int .u64 0, .int .u64 0, .int .i64 0, .int .i64 0, .bool false, .int .u64 0, .int .i64 0, .int .u64 0, .int .u64 0, .slice none 0 0, .slice none 0 0, .slice none 0 0], .int .i64 0, .int .i64 2]) (res_ctt Try.results23 rfl rfl rfl (load_blk hB.out Try.underlying68 rfl Try.sizeE)) rfl ?_
  have HB := HB.out.trans (hO.out.below (Nat.le_refl _))
  exact ⟨rfl, HB⟩
end Go.Proofs.Ythgiafjiemiifaa
