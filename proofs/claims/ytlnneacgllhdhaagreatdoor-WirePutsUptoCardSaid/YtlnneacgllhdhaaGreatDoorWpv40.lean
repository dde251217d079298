/-
  WHAT EACH USE TAKES AWAY. (printed by gen_wirc4.py). (joined out of WirC4 by shake.py)
-/
import Derived.Test.YtlnneacgllhdhaaGreatDoorWpv34
section
namespace Go.Proofs.YtlnneacgllhdhaaGreatDoor
open Go.RowKit OctMath
set_option linter.unusedVariables false
set_option linter.unusedSimpArgs false
def zM : Nat → MG → MG
  | 1, m => { m with x := { m.x with term := 0, index := 0, logTerm := 0, force := false } }
  | 2, m => { m with x := { m.x with term := 0, okf := false } }
  | 3, m => { m with x := { m.x with head := ⟨⟨0, 0, 0⟩, 0, 0, 0, 0⟩ } }
  | 4, m => { m with x := { m.x with ctx := 0 } }
  | 5, m => { m with x := { m.x with term := 0, index := 0, logTerm := 0, commit := 0, ctx := 0, ents := [] }, es := [], Ae := none, ce := 0 }
  | 6, m => { m with x := { m.x with term := 0, index := 0, ctx := 0, okf := false } }
  | 7, m => { m with x := { m.x with term := 0, index := 0, logTerm := 0, vot := [], lea := [], data := [] }, Av := none, cv := 0, Al := none, cl := 0, Ad := none, cd := 0 }
  | 8, m => { m with x := { m.x with term := 0 } }
  | 9, m => { m with x := { m.x with head := ⟨⟨0, 0, 0⟩, 0, 0, 0, 0⟩, data := [] }, Ad := none, cd := 0 }
  | 10, m => { m with x := { m.x with head := ⟨⟨0, 0, 0⟩, 0, 0, 0, 0⟩, okf := false } }
  | 11, m => { m with x := { m.x with head := ⟨⟨0, 0, 0⟩, 0, 0, 0, 0⟩, okf := false, data := [] }, Ad := none, cd := 0 }
  | 12, m => { m with x := { m.x with client := 0, seq := 0, op := 0, key := [], data := [] }, Ad := none, cd := 0 }
  | 13, m => { m with x := { m.x with client := 0, seq := 0, code := 0, data := [], names := [], ctx := 0 }, Ad := none, cd := 0, An := none, cn := 0 }
  | _, m => m
set_option maxRecDepth 100000 in
set_option maxHeartbeats 8000000 in
theorem use_1 (g : Nat) (m : MG) (w : World) (hB : Hid (Blk w g 38 (mgCs m))) : Calls Tryz.prog 73 #[.pointer (some ⟨g, 0, none⟩)] w fun e w' => e = .returned (.tuple #[]) ∧ Blk w' g 38 (mgCs (zM 1 m)) ∧ Only g w w' := by
  have c3 : w.cell? ⟨g, 3, none⟩ = some (.int .u64 (m.x.term : Int)) := hB.out.cell 3
  have f3 := hB.out.frozen 3
  have c4 : w.cell? ⟨g, 4, none⟩ = some (.int .u64 (m.x.index : Int)) := hB.out.cell 4
  have f4 := hB.out.frozen 4
  have c5 : w.cell? ⟨g, 5, none⟩ = some (.int .u64 (m.x.logTerm : Int)) := hB.out.cell 5
  have f5 := hB.out.frozen 5
  have c9 : w.cell? ⟨g, 9, none⟩ = some (.bool m.x.force) := hB.out.cell 9
  have f9 := hB.out.frozen 9
  have HE := Lh (show (((((mgCs m).setIfInBounds 3 (.int .u64 0)).setIfInBounds 4 (.int .u64 0)).setIfInBounds 5 (.int .u64 0)).setIfInBounds 9 (.bool false)) = mgCs (zM 1 m) from rfl)
  go_enter Tryz.func73, Tryz.ntmps73
  go_wp2
  go_end0
  have hf := ((((hB.out.set_ 3 (.int .u64 0)).set_ 4 (.int .u64 0)).set_ 5 (.int .u64 0)).set_ 9 (.bool false))
  rw [HE.out] at hf
  exact ⟨rfl, hf, (((((Only.refl g w).trans (Only.set_ _ g 3 (.int .u64 0))).trans (Only.set_ _ g 4 (.int .u64 0))).trans (Only.set_ _ g 5 (.int .u64 0))).trans (Only.set_ _ g 9 (.bool false)))⟩
set_option maxRecDepth 100000 in
set_option maxHeartbeats 8000000 in
theorem use_2 (g : Nat) (m : MG) (w : World) (hB : Hid (Blk w g 38 (mgCs m))) : Calls Tryz.prog 74 #[.pointer (some ⟨g, 0, none⟩)] w fun e w' => e = .returned (.tuple #[]) ∧ Blk w' g 38 (mgCs (zM 2 m)) ∧ Only g w w' := by
  have c3 : w.cell? ⟨g, 3, none⟩ = some (.int .u64 (m.x.term : Int)) := hB.out.cell 3
  have f3 := hB.out.frozen 3
  have c8 : w.cell? ⟨g, 8, none⟩ = some (.bool m.x.okf) := hB.out.cell 8
  have f8 := hB.out.frozen 8
  have HE := Lh (show (((mgCs m).setIfInBounds 3 (.int .u64 0)).setIfInBounds 8 (.bool false)) = mgCs (zM 2 m) from rfl)
  go_enter Tryz.func74, Tryz.ntmps74
  go_wp2
  go_end0
  have hf := ((hB.out.set_ 3 (.int .u64 0)).set_ 8 (.bool false))
  rw [HE.out] at hf
  exact ⟨rfl, hf, (((Only.refl g w).trans (Only.set_ _ g 3 (.int .u64 0))).trans (Only.set_ _ g 8 (.bool false)))⟩
set_option maxRecDepth 100000 in
set_option maxHeartbeats 8000000 in
theorem use_3 (g : Nat) (m : MG) (w : World) (hB : Hid (Blk w g 38 (mgCs m))) : Calls Tryz.prog 75 #[.pointer (some ⟨g, 0, none⟩)] w fun e w' => e = .returned (.tuple #[]) ∧ Blk w' g 38 (mgCs (zM 3 m)) ∧ Only g w w' := by
  have hP := Lh hB.out
  have HE := Lh (show (setL (mgCs m) 13 (#[.int .u64 0, .int .i64 0, .int .u64 0, .int .i64 0, .int .i64 0, .int .i64 0, .int .u32 0] : Array Value).toList) = mgCs (zM 3 m) from by (simp only [mgCs, mgA, zM, setL, List.setIfInBounds_toArray, List.set_cons_zero, List.set_cons_succ]) <;> rfl)
  have tk : True := trivial
  go_enter Tryz.func75, Tryz.ntmps75
  go_wp2_with (have _t := tk; refine wpl_store_part rfl 32 (.tmp 5) (.tmp 3) rfl g 13 38 _ _ #[.int .u64 0, .int .i64 0, .int .u64 0, .int .i64 0, .int .i64 0, .int .i64 0, .int .u32 0] rfl rfl hP.out (by show 13 + 7 ≤ 27; decide) rfl Tryz.sizeH rfl ?_; intro w1 hB1 hO1; clear tk _t)
  go_end0
  have hf := hB1.out
  rw [HE.out] at hf
  exact ⟨rfl, hf, ((Only.refl g w).trans hO1.out)⟩
set_option maxRecDepth 100000 in
set_option maxHeartbeats 8000000 in
theorem use_4 (g : Nat) (m : MG) (w : World) (hB : Hid (Blk w g 38 (mgCs m))) : Calls Tryz.prog 76 #[.pointer (some ⟨g, 0, none⟩)] w fun e w' => e = .returned (.tuple #[]) ∧ Blk w' g 38 (mgCs (zM 4 m)) ∧ Only g w w' := by
  have c7 : w.cell? ⟨g, 7, none⟩ = some (.int .u64 (m.x.ctx : Int)) := hB.out.cell 7
  have f7 := hB.out.frozen 7
  have HE := Lh (show ((mgCs m).setIfInBounds 7 (.int .u64 0)) = mgCs (zM 4 m) from rfl)
  go_enter Tryz.func76, Tryz.ntmps76
  go_wp2
  go_end0
  have hf := (hB.out.set_ 7 (.int .u64 0))
  rw [HE.out] at hf
  exact ⟨rfl, hf, ((Only.refl g w).trans (Only.set_ _ g 7 (.int .u64 0)))⟩
set_option maxRecDepth 100000 in
set_option maxHeartbeats 8000000 in
theorem use_5 (g : Nat) (m : MG) (w : World) (hB : Hid (Blk w g 38 (mgCs m))) : Calls Tryz.prog 77 #[.pointer (some ⟨g, 0, none⟩)] w fun e w' => e = .returned (.tuple #[]) ∧ Blk w' g 38 (mgCs (zM 5 m)) ∧ Only g w w' := by
  have c3 : w.cell? ⟨g, 3, none⟩ = some (.int .u64 (m.x.term : Int)) := hB.out.cell 3
  have f3 := hB.out.frozen 3
  have c4 : w.cell? ⟨g, 4, none⟩ = some (.int .u64 (m.x.index : Int)) := hB.out.cell 4
  have f4 := hB.out.frozen 4
  have c5 : w.cell? ⟨g, 5, none⟩ = some (.int .u64 (m.x.logTerm : Int)) := hB.out.cell 5
  have f5 := hB.out.frozen 5
  have c6 : w.cell? ⟨g, 6, none⟩ = some (.int .u64 (m.x.commit : Int)) := hB.out.cell 6
  have f6 := hB.out.frozen 6
  have c7 : w.cell? ⟨g, 7, none⟩ = some (.int .u64 (m.x.ctx : Int)) := hB.out.cell 7
  have f7 := hB.out.frozen 7
  have c10 : w.cell? ⟨g, 10, none⟩ = some (.slice m.Ae m.es.length m.ce) := hB.out.cell 10
  have f10 := hB.out.frozen 10
  have HE := Lh (show (((((((mgCs m).setIfInBounds 3 (.int .u64 0)).setIfInBounds 4 (.int .u64 0)).setIfInBounds 5 (.int .u64 0)).setIfInBounds 6 (.int .u64 0)).setIfInBounds 7 (.int .u64 0)).setIfInBounds 10 (.slice none 0 0)) = mgCs (zM 5 m) from rfl)
  go_enter Tryz.func77, Tryz.ntmps77
  go_wp2
  go_end0
  have hf := ((((((hB.out.set_ 3 (.int .u64 0)).set_ 4 (.int .u64 0)).set_ 5 (.int .u64 0)).set_ 6 (.int .u64 0)).set_ 7 (.int .u64 0)).set_ 10 (.slice none 0 0))
  rw [HE.out] at hf
  exact ⟨rfl, hf, (((((((Only.refl g w).trans (Only.set_ _ g 3 (.int .u64 0))).trans (Only.set_ _ g 4 (.int .u64 0))).trans (Only.set_ _ g 5 (.int .u64 0))).trans (Only.set_ _ g 6 (.int .u64 0))).trans (Only.set_ _ g 7 (.int .u64 0))).trans (Only.set_ _ g 10 (.slice none 0 0)))⟩
set_option maxRecDepth 100000 in
set_option maxHeartbeats 8000000 in
theorem use_6 (g : Nat) (m : MG) (w : World) (hB : Hid (Blk w g 38 (mgCs m))) : Calls Tryz.prog 78 #[.pointer (some ⟨g, 0, none⟩)] w fun e w' => e = .returned (.tuple #[]) ∧ Blk w' g 38 (mgCs (zM 6 m)) ∧ Only g w w' := by
  have c3 : w.cell? ⟨g, 3, none⟩ = some (.int .u64 (m.x.term : Int)) := hB.out.cell 3
  have f3 := hB.out.frozen 3
  have c4 : w.cell? ⟨g, 4, none⟩ = some (.int .u64 (m.x.index : Int)) := hB.out.cell 4
  have f4 := hB.out.frozen 4
  have c7 : w.cell? ⟨g, 7, none⟩ = some (.int .u64 (m.x.ctx : Int)) := hB.out.cell 7
  have f7 := hB.out.frozen 7
  have c8 : w.cell? ⟨g, 8, none⟩ = some (.bool m.x.okf) := hB.out.cell 8
  have f8 := hB.out.frozen 8
  have HE := Lh (show (((((mgCs m).setIfInBounds 3 (.int .u64 0)).setIfInBounds 4 (.int .u64 0)).setIfInBounds 7 (.int .u64 0)).setIfInBounds 8 (.bool false)) = mgCs (zM 6 m) from rfl)
  go_enter Tryz.func78, Tryz.ntmps78
  go_wp2
  go_end0
  have hf := ((((hB.out.set_ 3 (.int .u64 0)).set_ 4 (.int .u64 0)).set_ 7 (.int .u64 0)).set_ 8 (.bool false))
  rw [HE.out] at hf
  exact ⟨rfl, hf, (((((Only.refl g w).trans (Only.set_ _ g 3 (.int .u64 0))).trans (Only.set_ _ g 4 (.int .u64 0))).trans (Only.set_ _ g 7 (.int .u64 0))).trans (Only.set_ _ g 8 (.bool false)))⟩
set_option maxRecDepth 100000 in
set_option maxHeartbeats 8000000 in
theorem use_7 (g : Nat) (m : MG) (w : World) (hB : Hid (Blk w g 38 (mgCs m))) : Calls Tryz.prog 79 #[.pointer (some ⟨g, 0, none⟩)] w fun e w' => e = .returned (.tuple #[]) ∧ Blk w' g 38 (mgCs (zM 7 m)) ∧ Only g w w' := by
  have c3 : w.cell? ⟨g, 3, none⟩ = some (.int .u64 (m.x.term : Int)) := hB.out.cell 3
  have f3 := hB.out.frozen 3
  have c4 : w.cell? ⟨g, 4, none⟩ = some (.int .u64 (m.x.index : Int)) := hB.out.cell 4
  have f4 := hB.out.frozen 4
  have c5 : w.cell? ⟨g, 5, none⟩ = some (.int .u64 (m.x.logTerm : Int)) := hB.out.cell 5
  have f5 := hB.out.frozen 5
  have hP := Lh (((hB.out.set_ 3 (.int .u64 0)).set_ 4 (.int .u64 0)).set_ 5 (.int .u64 0))
  have HE := Lh (show ((setL ((((mgCs m).setIfInBounds 3 (.int .u64 0)).setIfInBounds 4 (.int .u64 0)).setIfInBounds 5 (.int .u64 0)) 11 (#[.slice none 0 0, .slice none 0 0] : Array Value).toList).setIfInBounds 20 (.slice none 0 0)) = mgCs (zM 7 m) from by (simp only [mgCs, mgA, zM, setL, List.setIfInBounds_toArray, List.set_cons_zero, List.set_cons_succ]) <;> rfl)
  have tk : True := trivial
  go_enter Tryz.func79, Tryz.ntmps79
  go_wp2_with (have _t := tk; refine wpl_store_part rfl 27 (.tmp 15) (.tmp 7) rfl g 11 38 _ _ #[.slice none 0 0, .slice none 0 0] rfl rfl hP.out (by show 11 + 2 ≤ 27; decide) rfl Tryz.sizeF rfl ?_; intro w1 hB1 hO1; have c20 : w1.cell? ⟨g, 20, none⟩ = some (.slice m.Ad m.x.data.length m.cd) := (hB1.out.cell 20).trans (by rw [setL_ge _ _ _ _ (Nat.le_of_ble_eq_true rfl)]; rfl); have f20 := hB1.out.frozen 20; clear tk _t)
  go_end0
  have hf := (hB1.out.set_ 20 (.slice none 0 0))
  rw [HE.out] at hf
  exact ⟨rfl, hf, ((((((Only.refl g w).trans (Only.set_ _ g 3 (.int .u64 0))).trans (Only.set_ _ g 4 (.int .u64 0))).trans (Only.set_ _ g 5 (.int .u64 0))).trans hO1.out).trans (Only.set_ _ g 20 (.slice none 0 0)))⟩
set_option maxRecDepth 100000 in
set_option maxHeartbeats 8000000 in
theorem use_8 (g : Nat) (m : MG) (w : World) (hB : Hid (Blk w g 38 (mgCs m))) : Calls Tryz.prog 80 #[.pointer (some ⟨g, 0, none⟩)] w fun e w' => e = .returned (.tuple #[]) ∧ Blk w' g 38 (mgCs (zM 8 m)) ∧ Only g w w' := by
  have c3 : w.cell? ⟨g, 3, none⟩ = some (.int .u64 (m.x.term : Int)) := hB.out.cell 3
  have f3 := hB.out.frozen 3
  have HE := Lh (show ((mgCs m).setIfInBounds 3 (.int .u64 0)) = mgCs (zM 8 m) from rfl)
  go_enter Tryz.func80, Tryz.ntmps80
  go_wp2
  go_end0
  have hf := (hB.out.set_ 3 (.int .u64 0))
  rw [HE.out] at hf
  exact ⟨rfl, hf, ((Only.refl g w).trans (Only.set_ _ g 3 (.int .u64 0)))⟩
set_option maxRecDepth 100000 in
set_option maxHeartbeats 8000000 in
theorem use_9 (g : Nat) (m : MG) (w : World) (hB : Hid (Blk w g 38 (mgCs m))) : Calls Tryz.prog 81 #[.pointer (some ⟨g, 0, none⟩)] w fun e w' => e = .returned (.tuple #[]) ∧ Blk w' g 38 (mgCs (zM 9 m)) ∧ Only g w w' := by
  have hP := Lh hB.out
  have HE := Lh (show ((setL (mgCs m) 13 (#[.int .u64 0, .int .i64 0, .int .u64 0, .int .i64 0, .int .i64 0, .int .i64 0, .int .u32 0] : Array Value).toList).setIfInBounds 20 (.slice none 0 0)) = mgCs (zM 9 m) from by (simp only [mgCs, mgA, zM, setL, List.setIfInBounds_toArray, List.set_cons_zero, List.set_cons_succ]) <;> rfl)
  have tk : True := trivial
  go_enter Tryz.func81, Tryz.ntmps81
  go_wp2_with (have _t := tk; refine wpl_store_part rfl 32 (.tmp 6) (.tmp 4) rfl g 13 38 _ _ #[.int .u64 0, .int .i64 0, .int .u64 0, .int .i64 0, .int .i64 0, .int .i64 0, .int .u32 0] rfl rfl hP.out (by show 13 + 7 ≤ 27; decide) rfl Tryz.sizeH rfl ?_; intro w1 hB1 hO1; have c20 : w1.cell? ⟨g, 20, none⟩ = some (.slice m.Ad m.x.data.length m.cd) := (hB1.out.cell 20).trans (by rw [setL_ge _ _ _ _ (Nat.le_of_ble_eq_true rfl)]; rfl); have f20 := hB1.out.frozen 20; clear tk _t)
  go_end0
  have hf := (hB1.out.set_ 20 (.slice none 0 0))
  rw [HE.out] at hf
  exact ⟨rfl, hf, (((Only.refl g w).trans hO1.out).trans (Only.set_ _ g 20 (.slice none 0 0)))⟩
set_option maxRecDepth 100000 in
set_option maxHeartbeats 8000000 in
theorem use_10 (g : Nat) (m : MG) (w : World) (hB : Hid (Blk w g 38 (mgCs m))) : Calls Tryz.prog 82 #[.pointer (some ⟨g, 0, none⟩)] w fun e w' => e = .returned (.tuple #[]) ∧ Blk w' g 38 (mgCs (zM 10 m)) ∧ Only g w w' := by
  have hP := Lh hB.out
  have HE := Lh (show ((setL (mgCs m) 13 (#[.int .u64 0, .int .i64 0, .int .u64 0, .int .i64 0, .int .i64 0, .int .i64 0, .int .u32 0] : Array Value).toList).setIfInBounds 8 (.bool false)) = mgCs (zM 10 m) from by (simp only [mgCs, mgA, zM, setL, List.setIfInBounds_toArray, List.set_cons_zero, List.set_cons_succ]) <;> rfl)
  have tk : True := trivial
  go_enter Tryz.func82, Tryz.ntmps82
  go_wp2_with (have _t := tk; refine wpl_store_part rfl 32 (.tmp 6) (.tmp 4) rfl g 13 38 _ _ #[.int .u64 0, .int .i64 0, .int .u64 0, .int .i64 0, .int .i64 0, .int .i64 0, .int .u32 0] rfl rfl hP.out (by show 13 + 7 ≤ 27; decide) rfl Tryz.sizeH rfl ?_; intro w1 hB1 hO1; have c8 : w1.cell? ⟨g, 8, none⟩ = some (.bool m.x.okf) := (hB1.out.cell 8).trans (by rw [setL_lt _ _ _ _ (by decide)]; rfl); have f8 := hB1.out.frozen 8; clear tk _t)
  go_end0
  have hf := (hB1.out.set_ 8 (.bool false))
  rw [HE.out] at hf
  exact ⟨rfl, hf, (((Only.refl g w).trans hO1.out).trans (Only.set_ _ g 8 (.bool false)))⟩
set_option maxRecDepth 100000 in
set_option maxHeartbeats 8000000 in
theorem use_11 (g : Nat) (m : MG) (w : World) (hB : Hid (Blk w g 38 (mgCs m))) : Calls Tryz.prog 83 #[.pointer (some ⟨g, 0, none⟩)] w fun e w' => e = .returned (.tuple #[]) ∧ Blk w' g 38 (mgCs (zM 11 m)) ∧ Only g w w' := by
  have hP := Lh hB.out
  have HE := Lh (show (((setL (mgCs m) 13 (#[.int .u64 0, .int .i64 0, .int .u64 0, .int .i64 0, .int .i64 0, .int .i64 0, .int .u32 0] : Array Value).toList).setIfInBounds 8 (.bool false)).setIfInBounds 20 (.slice none 0 0)) = mgCs (zM 11 m) from by (simp only [mgCs, mgA, zM, setL, List.setIfInBounds_toArray, List.set_cons_zero, List.set_cons_succ]) <;> rfl)
  have tk : True := trivial
  go_enter Tryz.func83, Tryz.ntmps83
  go_wp2_with (have _t := tk; refine wpl_store_part rfl 32 (.tmp 7) (.tmp 5) rfl g 13 38 _ _ #[.int .u64 0, .int .i64 0, .int .u64 0, .int .i64 0, .int .i64 0, .int .i64 0, .int .u32 0] rfl rfl hP.out (by show 13 + 7 ≤ 27; decide) rfl Tryz.sizeH rfl ?_; intro w1 hB1 hO1; have c8 : w1.cell? ⟨g, 8, none⟩ = some (.bool m.x.okf) := (hB1.out.cell 8).trans (by rw [setL_lt _ _ _ _ (by decide)]; rfl); have f8 := hB1.out.frozen 8; have c20 : w1.cell? ⟨g, 20, none⟩ = some (.slice m.Ad m.x.data.length m.cd) := (hB1.out.cell 20).trans (by rw [setL_ge _ _ _ _ (Nat.le_of_ble_eq_true rfl)]; rfl); have f20 := hB1.out.frozen 20; clear tk _t)
  go_end0
  have hf := ((hB1.out.set_ 8 (.bool false)).set_ 20 (.slice none 0 0))
  rw [HE.out] at hf
  exact ⟨rfl, hf, ((((Only.refl g w).trans hO1.out).trans (Only.set_ _ g 8 (.bool false))).trans (Only.set_ _ g 20 (.slice none 0 0)))⟩
set_option maxRecDepth 100000 in
set_option maxHeartbeats 8000000 in
theorem use_12 (g : Nat) (m : MG) (w : World) (hB : Hid (Blk w g 38 (mgCs m))) : Calls Tryz.prog 84 #[.pointer (some ⟨g, 0, none⟩)] w fun e w' => e = .returned (.tuple #[]) ∧ Blk w' g 38 (mgCs (zM 12 m)) ∧ Only g w w' := by
  have c21 : w.cell? ⟨g, 21, none⟩ = some (.int .u64 (m.x.client : Int)) := hB.out.cell 21
  have f21 := hB.out.frozen 21
  have c22 : w.cell? ⟨g, 22, none⟩ = some (.int .u64 (m.x.seq : Int)) := hB.out.cell 22
  have f22 := hB.out.frozen 22
  have c23 : w.cell? ⟨g, 23, none⟩ = some (.int .i64 m.x.op) := hB.out.cell 23
  have f23 := hB.out.frozen 23
  have c24 : w.cell? ⟨g, 24, none⟩ = some (.string (strOf m.x.key)) := hB.out.cell 24
  have f24 := hB.out.frozen 24
  have c20 : w.cell? ⟨g, 20, none⟩ = some (.slice m.Ad m.x.data.length m.cd) := hB.out.cell 20
  have f20 := hB.out.frozen 20
  have HE := Lh (show ((((((mgCs m).setIfInBounds 21 (.int .u64 0)).setIfInBounds 22 (.int .u64 0)).setIfInBounds 23 (.int .i64 0)).setIfInBounds 24 (.string ⟨#[]⟩)).setIfInBounds 20 (.slice none 0 0)) = mgCs (zM 12 m) from rfl)
  go_enter Tryz.func84, Tryz.ntmps84
  go_wp2
  go_end0
  have hf := (((((hB.out.set_ 21 (.int .u64 0)).set_ 22 (.int .u64 0)).set_ 23 (.int .i64 0)).set_ 24 (.string ⟨#[]⟩)).set_ 20 (.slice none 0 0))
  rw [HE.out] at hf
  exact ⟨rfl, hf, ((((((Only.refl g w).trans (Only.set_ _ g 21 (.int .u64 0))).trans (Only.set_ _ g 22 (.int .u64 0))).trans (Only.set_ _ g 23 (.int .i64 0))).trans (Only.set_ _ g 24 (.string ⟨#[]⟩))).trans (Only.set_ _ g 20 (.slice none 0 0)))⟩
set_option maxRecDepth 100000 in
set_option maxHeartbeats 8000000 in
theorem use_13 (g : Nat) (m : MG) (w : World) (hB : Hid (Blk w g 38 (mgCs m))) : Calls Tryz.prog 85 #[.pointer (some ⟨g, 0, none⟩)] w fun e w' => e = .returned (.tuple #[]) ∧ Blk w' g 38 (mgCs (zM 13 m)) ∧ Only g w w' := by
  have c21 : w.cell? ⟨g, 21, none⟩ = some (.int .u64 (m.x.client : Int)) := hB.out.cell 21
  have f21 := hB.out.frozen 21
  have c22 : w.cell? ⟨g, 22, none⟩ = some (.int .u64 (m.x.seq : Int)) := hB.out.cell 22
  have f22 := hB.out.frozen 22
  have c25 : w.cell? ⟨g, 25, none⟩ = some (.int .i64 m.x.code) := hB.out.cell 25
  have f25 := hB.out.frozen 25
  have c20 : w.cell? ⟨g, 20, none⟩ = some (.slice m.Ad m.x.data.length m.cd) := hB.out.cell 20
  have f20 := hB.out.frozen 20
  have c26 : w.cell? ⟨g, 26, none⟩ = some (.slice m.An m.x.names.length m.cn) := hB.out.cell 26
  have f26 := hB.out.frozen 26
  have c7 : w.cell? ⟨g, 7, none⟩ = some (.int .u64 (m.x.ctx : Int)) := hB.out.cell 7
  have f7 := hB.out.frozen 7
  have HE := Lh (show (((((((mgCs m).setIfInBounds 21 (.int .u64 0)).setIfInBounds 22 (.int .u64 0)).setIfInBounds 25 (.int .i64 0)).setIfInBounds 20 (.slice none 0 0)).setIfInBounds 26 (.slice none 0 0)).setIfInBounds 7 (.int .u64 0)) = mgCs (zM 13 m) from rfl)
  go_enter Tryz.func85, Tryz.ntmps85
  go_wp2
  go_end0
  have hf := ((((((hB.out.set_ 21 (.int .u64 0)).set_ 22 (.int .u64 0)).set_ 25 (.int .i64 0)).set_ 20 (.slice none 0 0)).set_ 26 (.slice none 0 0)).set_ 7 (.int .u64 0))
  rw [HE.out] at hf
  exact ⟨rfl, hf, (((((((Only.refl g w).trans (Only.set_ _ g 21 (.int .u64 0))).trans (Only.set_ _ g 22 (.int .u64 0))).trans (Only.set_ _ g 25 (.int .i64 0))).trans (Only.set_ _ g 20 (.slice none 0 0))).trans (Only.set_ _ g 26 (.slice none 0 0))).trans (Only.set_ _ g 7 (.int .u64 0)))⟩
def useOf (k : Int) : Nat := if k = 1 then 1 else if k = 2 then 2 else if k = 3 then 1 else if k = 4 then 2 else if k = 5 then 5 else if k = 6 then 6 else if k = 7 then 7 else if k = 8 then 8 else if k = 9 then 9 else if k = 10 then 10 else if k = 11 then 3 else if k = 12 then 3 else if k = 13 then 3 else if k = 14 then 3 else if k = 15 then 11 else if k = 16 then 12 else if k = 17 then 13 else if k = 18 then 4 else if k = 19 then 4 else 0
def useF : Nat → Nat
  | 1 => 73
  | 2 => 74
  | 3 => 75
  | 4 => 76
  | 5 => 77
  | 6 => 78
  | 7 => 79
  | 8 => 80
  | 9 => 81
  | 10 => 82
  | 11 => 83
  | 12 => 84
  | 13 => 85
  | _ => 0
theorem use_all {n : Nat} (h1 : 1 ≤ n) (h2 : n ≤ 13) (g : Nat) (m : MG) (w : World) (hB : Hid (Blk w g 38 (mgCs m))) : Calls Tryz.prog (useF n) #[.pointer (some ⟨g, 0, none⟩)] w fun e w' => e = .returned (.tuple #[]) ∧ Blk w' g 38 (mgCs (zM n m)) ∧ Only g w w' := by
  have hn : n = 1 ∨ n = 2 ∨ n = 3 ∨ n = 4 ∨ n = 5 ∨ n = 6 ∨ n = 7 ∨ n = 8 ∨ n = 9 ∨ n = 10 ∨ n = 11 ∨ n = 12 ∨ n = 13 := by omega
  rcases hn with rfl | rfl | rfl | rfl | rfl | rfl | rfl | rfl | rfl | rfl | rfl | rfl | rfl

  · exact use_1 g m w hB
  · exact use_2 g m w hB
  · exact use_3 g m w hB
  · exact use_4 g m w hB
  · exact use_5 g m w hB
  · exact use_6 g m w hB
  · exact use_7 g m w hB
  · exact use_8 g m w hB
  · exact use_9 g m w hB
  · exact use_10 g m w hB
  · exact use_11 g m w hB
  · exact use_12 g m w hB
  · exact use_13 g m w hB
end Go.Proofs.YtlnneacgllhdhaaGreatDoor
end
