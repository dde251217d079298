/-
  THE PROGRAM'S READER: what recovers. (printed by gen_pag1.py). (joined out of PaG1 by shake.py)
-/
import Derived.Recover
import Derived.Defers
import Derived.Test.YthgiafjiemiifaaGreatPbk14
section
namespace Go.Proofs.YthgiafjiemiifaaGreat
open Go.RowKit OctMath
set_option linter.unusedVariables false
set_option maxRecDepth 100000 in
theorem bad_asserted (w : World) : (Instr.typeAssert (.iface 105 (.agg #[])) 20 105 true).run Tryz.prog w = .ok (.tuple #[.agg #[], .bool true]) w := by kernel_rfl
set_option maxRecDepth 100000 in
set_option maxHeartbeats 1000000 in
theorem conf_returning (n x y e : Nat) (w : World) :
    CallsD Tryz.prog 109 #[.pointer (some ⟨n, 0, none⟩), .pointer (some ⟨x, 0, none⟩), .pointer (some ⟨y, 0, none⟩), .pointer (some ⟨e, 0, none⟩)] .returning w fun e u' w' => e = .returned (.tuple #[]) ∧ u' = .returning ∧ w = w' := by
  refine callsD_of_wpS Tryz.func109 rfl fun c₀ cs hu => ?_
  apply wpS_seq
  apply wpS_region
  simp [wpOpsS, go_sem, recoverD, hu, Tryz.ntmps109, Exit.thenS]
  refine wpS_of_wp ?_
  go_wp2
  cases c₀
  simp_all [bodyPostS, results, Tryz.results109]
set_option maxRecDepth 100000 in
set_option maxHeartbeats 2000000 in
theorem conf_panicking (n x y e : Nat) (older : List PanicEntry) (w : World) (xs : Array Value) (hN : Hid (Blk w n 36 #[.slice none 0 0, .slice none 0 0])) (hX : Hid (Blk w x 36 xs)) (hxs : Hid (xs.size = 2)) (y0 e0 : Value) (hY : Hid (Blk w y 3 #[y0])) (hE : Hid (Blk w e 39 #[e0])) (hxy : x < y) (hye : y < e) :
    CallsD Tryz.prog 109 #[.pointer (some ⟨n, 0, none⟩), .pointer (some ⟨x, 0, none⟩), .pointer (some ⟨y, 0, none⟩), .pointer (some ⟨e, 0, none⟩)] (.panicking ({ v := .iface 105 (.agg #[]), recovered := false } :: older)) w fun o u' w' =>
      o = .returned (.tuple #[]) ∧ u' = .panicking ({ v := .iface 105 (.agg #[]), recovered := true } :: older) ∧ Blk w' x 36 #[.slice none 0 0, .slice none 0 0] ∧ Blk w' y 3 #[.int .i64 0] ∧ Blk w' e 39 #[.int .i64 50] ∧ Below x w w' := by
  have hta := bad_asserted
  refine callsD_of_wpS Tryz.func109 rfl fun c₀ cs hu => ?_
  apply wpS_seq
  apply wpS_region
  simp [wpOpsS, go_sem, recoverD, hu, Tryz.ntmps109, Exit.thenS]
  refine wpS_of_wp ?_
  have hxn := Lib.hid hxs.out
  go_wp2_with (first
    | (refine wpl_load_blk rfl 36 (.tmp 0) rfl n 36 #[.slice none 0 0, .slice none 0 0] _ rfl (hN.out.alloc _) Tryz.underlying36 rfl Tryz.sizeF ?_)
    | (refine wpl_store_blk rfl 36 (.tmp 1) (.tmp 13) rfl x 36 xs #[.slice none 0 0, .slice none 0 0] rfl rfl (hX.out.alloc _) hxs.out Tryz.sizeF rfl ?_; intro w1 hB hO; have hy := hO.out.blk (hY.out.alloc _) (by omega); have he := hO.out.blk (hE.out.alloc _) (by omega); have cy := hy.cell 0; have fy := hy.frozen; have ce := he.cell 0; have fe := he.frozen; have HY := Lib.hid hy; have HE := Lib.hid he; clear hy he))
  obtain ⟨wy, ewy⟩ : ∃ wy, w1.setCell ⟨y, 0, none⟩ (.int .i64 0) = wy := ⟨_, rfl⟩
  have o1 := Only.set_ w1 y 0 (.int .i64 0)
  have y1 : Blk (w1.setCell ⟨y, 0, none⟩ (.int .i64 0)) y 3 #[.int .i64 0] := HY.out.set_ 0 (.int .i64 0)
  rw [ewy] at o1 y1 ⊢
  have x1 := o1.blk hB.out (show x ≠ y by omega)
  have e1 := o1.blk HE.out (show e ≠ y by omega)
  obtain ⟨w2, ew⟩ : ∃ w2, wy.setCell ⟨e, 0, none⟩ (.int .i64 50) = w2 := ⟨_, rfl⟩
  have o2 := Only.set_ wy e 0 (.int .i64 50)
  have e2 : Blk (wy.setCell ⟨e, 0, none⟩ (.int .i64 50)) e 39 #[.int .i64 50] := e1.set_ 0 (.int .i64 50)
  rw [ew] at o2 e2
  have x2 := o2.blk x1 (show x ≠ e by omega)
  have y2 := o2.blk y1 (show y ≠ e by omega)
  have b0 : Below x w (w.alloc (.cells #[] 105)) := (Below.refl x w).alloc (Nat.le_of_lt hX.out.lt) _
  have b1 := b0.trans (hO.out.below (Nat.le_refl x))
  have b2 := b1.trans (o1.below (show x ≤ y by omega))
  have b3 := b2.trans (o2.below (show x ≤ e by omega))
  have HF := Lib.hid (And.intro x2 (And.intro y2 (And.intro e2 b3)))
  rw [ew]
  clear ew ewy o1 y1 x1 e1 o2 e2 x2 y2 b0 b1 b2 b3 hB hO HY HE cy fy ce fe hN hX hY hE
  cases c₀
  simp [bodyPostS, results, Tryz.results109]
  exact HF.out
set_option maxRecDepth 100000 in
set_option maxHeartbeats 1000000 in
theorem cmd_returning (n x y e : Nat) (w : World) :
    CallsD Tryz.prog 88 #[.pointer (some ⟨n, 0, none⟩), .pointer (some ⟨x, 0, none⟩), .pointer (some ⟨y, 0, none⟩), .pointer (some ⟨e, 0, none⟩)] .returning w fun e u' w' => e = .returned (.tuple #[]) ∧ u' = .returning ∧ w = w' := by
  refine callsD_of_wpS Tryz.func88 rfl fun c₀ cs hu => ?_
  apply wpS_seq
  apply wpS_region
  simp [wpOpsS, go_sem, recoverD, hu, Tryz.ntmps88, Exit.thenS]
  refine wpS_of_wp ?_
  go_wp2
  cases c₀
  simp_all [bodyPostS, results, Tryz.results88]
set_option maxRecDepth 100000 in
set_option maxHeartbeats 2000000 in
theorem cmd_panicking (n x y e : Nat) (older : List PanicEntry) (w : World) (xs : Array Value) (hN : Hid (Blk w n 33 #[.int .i64 0, .int .u64 0, .int .u64 0, .string ⟨#[]⟩, .int .i64 0, .int .u32 0, .int .u64 0, .int .u64 0, .int .i64 0, .int .i64 0, .bool false, .int .u64 0, .int .i64 0, .int .u64 0, .int .u64 0, .slice none 0 0])) (hX : Hid (Blk w x 33 xs)) (hxs : Hid (xs.size = 16)) (y0 e0 : Value) (hY : Hid (Blk w y 3 #[y0])) (hE : Hid (Blk w e 39 #[e0])) (hxy : x < y) (hye : y < e) :
    CallsD Tryz.prog 88 #[.pointer (some ⟨n, 0, none⟩), .pointer (some ⟨x, 0, none⟩), .pointer (some ⟨y, 0, none⟩), .pointer (some ⟨e, 0, none⟩)] (.panicking ({ v := .iface 105 (.agg #[]), recovered := false } :: older)) w fun o u' w' =>
      o = .returned (.tuple #[]) ∧ u' = .panicking ({ v := .iface 105 (.agg #[]), recovered := true } :: older) ∧ Blk w' x 33 #[.int .i64 0, .int .u64 0, .int .u64 0, .string ⟨#[]⟩, .int .i64 0, .int .u32 0, .int .u64 0, .int .u64 0, .int .i64 0, .int .i64 0, .bool false, .int .u64 0, .int .i64 0, .int .u64 0, .int .u64 0, .slice none 0 0] ∧ Blk w' y 3 #[.int .i64 0] ∧ Blk w' e 39 #[.int .i64 50] ∧ Below x w w' := by
  have hta := bad_asserted
  refine callsD_of_wpS Tryz.func88 rfl fun c₀ cs hu => ?_
  apply wpS_seq
  apply wpS_region
  simp [wpOpsS, go_sem, recoverD, hu, Tryz.ntmps88, Exit.thenS]
  refine wpS_of_wp ?_
  have hxn := Lib.hid hxs.out
  go_wp2_with (first
    | (refine wpl_load_blk rfl 33 (.tmp 0) rfl n 33 #[.int .i64 0, .int .u64 0, .int .u64 0, .string ⟨#[]⟩, .int .i64 0, .int .u32 0, .int .u64 0, .int .u64 0, .int .i64 0, .int .i64 0, .bool false, .int .u64 0, .int .i64 0, .int .u64 0, .int .u64 0, .slice none 0 0] _ rfl (hN.out.alloc _) Tryz.underlying33 rfl Tryz.sizeC ?_)
    | (refine wpl_store_blk rfl 33 (.tmp 1) (.tmp 13) rfl x 33 xs #[.int .i64 0, .int .u64 0, .int .u64 0, .string ⟨#[]⟩, .int .i64 0, .int .u32 0, .int .u64 0, .int .u64 0, .int .i64 0, .int .i64 0, .bool false, .int .u64 0, .int .i64 0, .int .u64 0, .int .u64 0, .slice none 0 0] rfl rfl (hX.out.alloc _) hxs.out Tryz.sizeC rfl ?_; intro w1 hB hO; have hy := hO.out.blk (hY.out.alloc _) (by omega); have he := hO.out.blk (hE.out.alloc _) (by omega); have cy := hy.cell 0; have fy := hy.frozen; have ce := he.cell 0; have fe := he.frozen; have HY := Lib.hid hy; have HE := Lib.hid he; clear hy he))
  obtain ⟨wy, ewy⟩ : ∃ wy, w1.setCell ⟨y, 0, none⟩ (.int .i64 0) = wy := ⟨_, rfl⟩
  have o1 := Only.set_ w1 y 0 (.int .i64 0)
  have y1 : Blk (w1.setCell ⟨y, 0, none⟩ (.int .i64 0)) y 3 #[.int .i64 0] := HY.out.set_ 0 (.int .i64 0)
  rw [ewy] at o1 y1 ⊢
  have x1 := o1.blk hB.out (show x ≠ y by omega)
  have e1 := o1.blk HE.out (show e ≠ y by omega)
  obtain ⟨w2, ew⟩ : ∃ w2, wy.setCell ⟨e, 0, none⟩ (.int .i64 50) = w2 := ⟨_, rfl⟩
  have o2 := Only.set_ wy e 0 (.int .i64 50)
  have e2 : Blk (wy.setCell ⟨e, 0, none⟩ (.int .i64 50)) e 39 #[.int .i64 50] := e1.set_ 0 (.int .i64 50)
  rw [ew] at o2 e2
  have x2 := o2.blk x1 (show x ≠ e by omega)
  have y2 := o2.blk y1 (show y ≠ e by omega)
  have b0 : Below x w (w.alloc (.cells #[] 105)) := (Below.refl x w).alloc (Nat.le_of_lt hX.out.lt) _
  have b1 := b0.trans (hO.out.below (Nat.le_refl x))
  have b2 := b1.trans (o1.below (show x ≤ y by omega))
  have b3 := b2.trans (o2.below (show x ≤ e by omega))
  have HF := Lib.hid (And.intro x2 (And.intro y2 (And.intro e2 b3)))
  rw [ew]
  clear ew ewy o1 y1 x1 e1 o2 e2 x2 y2 b0 b1 b2 b3 hB hO HY HE cy fy ce fe hN hX hY hE
  cases c₀
  simp [bodyPostS, results, Tryz.results88]
  exact HF.out
set_option maxRecDepth 100000 in
set_option maxHeartbeats 1000000 in
theorem ent_returning (n x y e : Nat) (w : World) :
    CallsD Tryz.prog 41 #[.pointer (some ⟨n, 0, none⟩), .pointer (some ⟨x, 0, none⟩), .pointer (some ⟨y, 0, none⟩), .pointer (some ⟨e, 0, none⟩)] .returning w fun e u' w' => e = .returned (.tuple #[]) ∧ u' = .returning ∧ w = w' := by
  refine callsD_of_wpS Tryz.func41 rfl fun c₀ cs hu => ?_
  apply wpS_seq
  apply wpS_region
  simp [wpOpsS, go_sem, recoverD, hu, Tryz.ntmps41, Exit.thenS]
  refine wpS_of_wp ?_
  go_wp2
  cases c₀
  simp_all [bodyPostS, results, Tryz.results41]
set_option maxRecDepth 100000 in
set_option maxHeartbeats 2000000 in
theorem ent_panicking (n x y e : Nat) (older : List PanicEntry) (w : World) (xs : Array Value) (hN : Hid (Blk w n 38 #[.int .u64 0, .int .u64 0, .int .i64 0, .int .i64 0, .int .u64 0, .int .u64 0, .string ⟨#[]⟩, .int .i64 0, .int .u32 0, .int .u64 0, .int .u64 0, .int .i64 0, .int .i64 0, .bool false, .int .u64 0, .int .i64 0, .int .u64 0, .int .u64 0, .slice none 0 0, .slice none 0 0, .slice none 0 0])) (hX : Hid (Blk w x 38 xs)) (hxs : Hid (xs.size = 21)) (y0 e0 : Value) (hY : Hid (Blk w y 3 #[y0])) (hE : Hid (Blk w e 39 #[e0])) (hxy : x < y) (hye : y < e) :
    CallsD Tryz.prog 41 #[.pointer (some ⟨n, 0, none⟩), .pointer (some ⟨x, 0, none⟩), .pointer (some ⟨y, 0, none⟩), .pointer (some ⟨e, 0, none⟩)] (.panicking ({ v := .iface 105 (.agg #[]), recovered := false } :: older)) w fun o u' w' =>
      o = .returned (.tuple #[]) ∧ u' = .panicking ({ v := .iface 105 (.agg #[]), recovered := true } :: older) ∧ Blk w' x 38 #[.int .u64 0, .int .u64 0, .int .i64 0, .int .i64 0, .int .u64 0, .int .u64 0, .string ⟨#[]⟩, .int .i64 0, .int .u32 0, .int .u64 0, .int .u64 0, .int .i64 0, .int .i64 0, .bool false, .int .u64 0, .int .i64 0, .int .u64 0, .int .u64 0, .slice none 0 0, .slice none 0 0, .slice none 0 0] ∧ Blk w' y 3 #[.int .i64 0] ∧ Blk w' e 39 #[.int .i64 50] ∧ Below x w w' := by
  have hta := bad_asserted
  refine callsD_of_wpS Tryz.func41 rfl fun c₀ cs hu => ?_
  apply wpS_seq
  apply wpS_region
  simp [wpOpsS, go_sem, recoverD, hu, Tryz.ntmps41, Exit.thenS]
  refine wpS_of_wp ?_
  have hxn := Lib.hid hxs.out
  go_wp2_with (first
    | (refine wpl_load_blk rfl 38 (.tmp 0) rfl n 38 #[.int .u64 0, .int .u64 0, .int .i64 0, .int .i64 0, .int .u64 0, .int .u64 0, .string ⟨#[]⟩, .int .i64 0, .int .u32 0, .int .u64 0, .int .u64 0, .int .i64 0, .int .i64 0, .bool false, .int .u64 0, .int .i64 0, .int .u64 0, .int .u64 0, .slice none 0 0, .slice none 0 0, .slice none 0 0] _ rfl (hN.out.alloc _) Tryz.underlying38 rfl Tryz.sizeE ?_)
    | (refine wpl_store_blk rfl 38 (.tmp 1) (.tmp 13) rfl x 38 xs #[.int .u64 0, .int .u64 0, .int .i64 0, .int .i64 0, .int .u64 0, .int .u64 0, .string ⟨#[]⟩, .int .i64 0, .int .u32 0, .int .u64 0, .int .u64 0, .int .i64 0, .int .i64 0, .bool false, .int .u64 0, .int .i64 0, .int .u64 0, .int .u64 0, .slice none 0 0, .slice none 0 0, .slice none 0 0] rfl rfl (hX.out.alloc _) hxs.out Tryz.sizeE rfl ?_; intro w1 hB hO; have hy := hO.out.blk (hY.out.alloc _) (by omega); have he := hO.out.blk (hE.out.alloc _) (by omega); have cy := hy.cell 0; have fy := hy.frozen; have ce := he.cell 0; have fe := he.frozen; have HY := Lib.hid hy; have HE := Lib.hid he; clear hy he))
  obtain ⟨wy, ewy⟩ : ∃ wy, w1.setCell ⟨y, 0, none⟩ (.int .i64 0) = wy := ⟨_, rfl⟩
  have o1 := Only.set_ w1 y 0 (.int .i64 0)
  have y1 : Blk (w1.setCell ⟨y, 0, none⟩ (.int .i64 0)) y 3 #[.int .i64 0] := HY.out.set_ 0 (.int .i64 0)
  rw [ewy] at o1 y1 ⊢
  have x1 := o1.blk hB.out (show x ≠ y by omega)
  have e1 := o1.blk HE.out (show e ≠ y by omega)
  obtain ⟨w2, ew⟩ : ∃ w2, wy.setCell ⟨e, 0, none⟩ (.int .i64 50) = w2 := ⟨_, rfl⟩
  have o2 := Only.set_ wy e 0 (.int .i64 50)
  have e2 : Blk (wy.setCell ⟨e, 0, none⟩ (.int .i64 50)) e 39 #[.int .i64 50] := e1.set_ 0 (.int .i64 50)
  rw [ew] at o2 e2
  have x2 := o2.blk x1 (show x ≠ e by omega)
  have y2 := o2.blk y1 (show y ≠ e by omega)
  have b0 : Below x w (w.alloc (.cells #[] 105)) := (Below.refl x w).alloc (Nat.le_of_lt hX.out.lt) _
  have b1 := b0.trans (hO.out.below (Nat.le_refl x))
  have b2 := b1.trans (o1.below (show x ≤ y by omega))
  have b3 := b2.trans (o2.below (show x ≤ e by omega))
  have HF := Lib.hid (And.intro x2 (And.intro y2 (And.intro e2 b3)))
  rw [ew]
  clear ew ewy o1 y1 x1 e1 o2 e2 x2 y2 b0 b1 b2 b3 hB hO HY HE cy fy ce fe hN hX hY hE
  cases c₀
  simp [bodyPostS, results, Tryz.results41]
  exact HF.out
end Go.Proofs.YthgiafjiemiifaaGreat
end
