/-
  uses: the map of what each kind uses; Check of a ping; Put of a ping. (printed by gen_wirp1.py). (joined out of WirC1, WirC2, WirP1 by shake.py)
-/
import Derived.Maps.OwnSet
import Derived.Deep.Cut
import Derived.Handy
import Derived.Test.YtlnneacgllhdhaaGreatDoorWbk04
import Derived.Test.YtlnneacgllhdhaaGreatDoorWbk05
import Derived.Test.YtlnneacgllhdhaaGreatDoorWbk21
section
namespace Go.Proofs.YtlnneacgllhdhaaGreatDoor
open Go.RowKit OctMath
set_option linter.unusedVariables false
set_option linter.unusedSimpArgs false
theorem wpList_insert_own {H : Type} {P : Program} (w : World) {ops : Array Oper} {rest : List Oper} {o : Oper} {a : Act} {Q : Exit → Act → World → Prop}
    (hg : o.guard = none) (m x v : Operand) (t : TypeId) (hop : o.op = Op.insert t m x v)
    (k e : TypeId) (K : Go.Maps.Keyed P k) (ht : P.underlying t = some (.map k e)) (R : Value → Option (DataW H × List MemPlace)) (b n : Nat) (D : DataW H)
    (hm : a.eval m = .map (some b)) (hown : w.ownsMap P k R b n D) (hn : n < maxLen) (key val : Value) (kl : Lit) (hx : a.eval x = key) (hv : a.eval v = val) (hkey : keyOf P k key = some kl)
    (d : DataW H) (ps : List MemPlace) (hval : R val = some (d, ps))
    (hK : ∀ w', w'.ownsMap P k R b (n + 1) (D.put kl d) → w.grownBy w' (some b) → wpList P ops Q rest (a.put o.dst undef) w') :
    wpList P ops Q (o :: rest) a w := by
  refine wpList_plain hg fun K' hK' => ?_
  obtain ⟨w', hrun, r1, r2⟩ := hown.update K ht hn hkey hval
  unfold Oper.wp
  simp [execOp, hop, hm, hx, hv, hrun, Result.andThen]
  exact hK' _ _ (hK w' r1 r2)
theorem lawKind : Go.Maps.Keyed Tryz.prog 22 := Go.Maps.int_keyed Tryz.underlying22
/-- an element of the map of uses: any value stands for itself. -/
def RV (v : Value) : Option (DataW Value × List MemPlace) := some (.held v, [])
def fnv (n : Nat) : Value := .func (.func n) #[] #[]
def useL : List (Lit × DataW Value) := [(.int .i64 1, .held (fnv 73)), (.int .i64 2, .held (fnv 74)), (.int .i64 3, .held (fnv 73)), (.int .i64 4, .held (fnv 74)),
  (.int .i64 5, .held (fnv 77)), (.int .i64 6, .held (fnv 78)), (.int .i64 7, .held (fnv 79)), (.int .i64 8, .held (fnv 80)), (.int .i64 9, .held (fnv 81)),
  (.int .i64 10, .held (fnv 82)), (.int .i64 11, .held (fnv 75)), (.int .i64 12, .held (fnv 75)), (.int .i64 13, .held (fnv 75)), (.int .i64 14, .held (fnv 75)),
  (.int .i64 15, .held (fnv 83)), (.int .i64 16, .held (fnv 84)), (.int .i64 17, .held (fnv 85)), (.int .i64 18, .held (fnv 76)), (.int .i64 19, .held (fnv 76))]
def ins (D : DataW Value) : List (Int × Nat) → DataW Value
  | [] => D
  | x :: l => ins (D.put (.int .i64 x.1) (.held (fnv x.2))) l
def useO : List (Int × Nat) := [(1, 73), (3, 73), (2, 74), (4, 74), (5, 77), (6, 78), (7, 79), (8, 80), (9, 81), (10, 82),
  (11, 75), (12, 75), (13, 75), (14, 75), (15, 83), (16, 84), (17, 85), (18, 76), (19, 76)]
theorem ins_useO : ins (.map []) useO = .map useL := by kernel_rfl
def Um (w0 w : World) (n : Nat) (todo : List (Int × Nat)) : Prop := Hid (Below w0.heap.size w0 w ∧ w0.heap.size < w.heap.size ∧ ∃ D, w.ownsMap Tryz.prog 22 RV w0.heap.size n D ∧ ins D todo = .map useL)
theorem wpl_insert {w0 w : World} {ops : Array Oper} {rest : List Oper} {o : Oper} {a : Act} {Q : Exit → Act → World → Prop} {n : Nat} {k : Int} {f : Nat} {todo : List (Int × Nat)} (U : Um w0 w n ((k, f) :: todo))
    (hg : o.guard = none) (m x v : Operand) (hop : o.op = Op.insert 91 m x v) (hn : n < 1000) (hm : a.eval m = .map (some w0.heap.size)) (hx : a.eval x = .int .i64 k) (hv : a.eval v = fnv f) (hk : (Lit.int .i64 k).wf = true)
    (hK : ∀ w', Um w0 w' (n + 1) todo → wpList Tryz.prog ops Q rest (a.put o.dst undef) w') : wpList Tryz.prog ops Q (o :: rest) a w := by
  obtain ⟨h0, h1, D, h2, h3⟩ := U.out
  exact wpList_insert_own w hg m x v _ hop _ _ lawKind Tryz.underlying91 RV w0.heap.size n D hm h2 (by unfold maxLen; omega) _ _ _ hx hv (Go.Maps.keyOf_int_mk Tryz.underlying22 hk) _ _ rfl
    (fun w' k1 k2 => hK w' (Lib.hid ⟨h0.grown k2 (Nat.le_of_lt h1) (fun k e => by injection e with e; omega), Nat.lt_of_lt_of_le h1 k2.size, _, k1, h3⟩))
def RetUses (w : World) (e : Ending) (w' : World) : Prop := e = .returned (.map (some w.heap.size)) ∧ w'.ownsMap Tryz.prog 22 RV w.heap.size 19 (.map useL) ∧ Below w.heap.size w w'
set_option maxRecDepth 100000 in
set_option maxHeartbeats 8000000 in
theorem uses_any (w : World) : Calls Tryz.prog 33 #[] w (RetUses w) := by
  have hmk := @run_makeMap Tryz.prog
  have U : Um w (w.alloc (.map #[] 0)) 0 [(1, 73), (3, 73), (2, 74), (4, 74), (5, 77), (6, 78), (7, 79), (8, 80), (9, 81), (10, 82),
    (11, 75), (12, 75), (13, 75), (14, 75), (15, 83), (16, 84), (17, 85), (18, 76), (19, 76)] :=
    Lib.hid ⟨(Below.refl _ _).alloc (Nat.le_refl _) _, by simp, .map [], World.ownsMap_made w Tryz.prog 22 RV, ins_useO⟩
  go_enter Tryz.func33, Tryz.ntmps33
  go_wp2_with (refine wpl_insert U rfl _ _ _ rfl (by decide) rfl rfl rfl (by decide) ?_; clear U; intro w2 U)
  go_ret
  obtain ⟨h0, h1, D, h2, h3⟩ := U.out
  refine ⟨rfl, ?_, h0⟩
  rw [← h3]
  exact h2
end Go.Proofs.YtlnneacgllhdhaaGreatDoor
end
section
namespace Go.Proofs.YtlnneacgllhdhaaGreatDoor
open Go.RowKit OctMath
set_option linter.unusedVariables false
set_option linter.unusedSimpArgs false
/-- a ping of term t and context c in memory's cells. -/
def pingCs (t c : Int) : Array Value :=
  #[.int .i64 18, .int .i64 1, .int .i64 2, .int .u64 t, .int .u64 0, .int .u64 0, .int .u64 0, .int .u64 c, .bool false, .bool false, .slice none 0 0, .slice none 0 0, .slice none 0 0, .int .u64 0, .int .i64 0, .int .u64 0, .int .i64 0, .int .i64 0, .int .i64 0, .int .u32 0, .slice none 0 0, .int .u64 0, .int .u64 0, .int .i64 0, .string ⟨#[]⟩, .int .i64 0, .slice none 0 0]
set_option maxRecDepth 100000 in
set_option maxHeartbeats 8000000 in
theorem use_ping (g : Nat) (t c : Int) (w : World) (hB : Hid (Blk w g 38 (pingCs t c))) : Calls Tryz.prog 76 #[.pointer (some ⟨g, 0, none⟩)] w fun e w' => e = .returned (.tuple #[]) ∧ w' = w.setCell ⟨g, 7, none⟩ (.int .u64 0) := by
  have c7 : w.cell? ⟨g, 7, none⟩ = some (.int .u64 c) := hB.out.cell 7
  have f7 := hB.out.frozen 7
  go_enter Tryz.func76, Tryz.ntmps76
  go_wp2
  go_end0
  exact ⟨rfl, rfl⟩
theorem zeroUse (w : World) : (zeroValue 89).run Tryz.prog w = .ok .nilFunc w := by kernel_rfl
theorem look_ping : (DataW.map useL).atKey (.int .i64 18) (.held .nilFunc) = .held (fnv 76) := by kernel_rfl
theorem has_ping : Go.Maps.has (DataW.map useL) (.int .i64 18) = true := by kernel_rfl
def plainCs (t : Int) : Array Value := #[.int .u64 t, .int .u64 0, .int .u64 0, .int .u64 0, .int .u64 0, .int .u64 0, .int .u64 0, .bool false, .bool false, .int .u64 0, .int .i64 0, .int .u64 0, .int .i64 0, .int .i64 0, .int .i64 0, .int .u32 0, .int .i64 0, .string ⟨#[]⟩, .int .i64 0, .int .i64 0, .int .i64 0, .int .i64 0, .int .i64 0, .int .i64 0]
theorem sizePl : (Tryz.prog.info? 96).map (·.size) = some 24 := by kernel_rfl
theorem wpl_bin {P : Program} {ops : Array Oper} {rest : List Oper} {op : Oper} {a : Act} {w : World} {Q : Exit → Act → World → Prop} (hgd : op.guard = none) (b : BinOp) (t t2 : TypeId) (x y : Operand) (ho : op.op = .binOp b t x y t2) (v : Value)
    (hr : (do eqGuard b t x y (a.eval x) (a.eval y); binOp b t (a.eval x) (a.eval y)).run P w = .ok v w) (h : wpList P ops Q rest (a.put op.dst v) w) : wpList P ops Q (op :: rest) a w := by
  refine wpList_plain hgd fun K hK => ?_
  unfold Oper.wp
  simp only [execOp, ho, Sem.run_bind, Result.andThen] at hr ⊢
  simp [hr, Result.andThen]
  exact hK _ _ h
theorem neq_plain0 (x y : Operand) (w : World) : (do eqGuard .neq 96 x y (.agg (plainCs 0)) (.agg (plainCs 0)); binOp .neq 96 (.agg (plainCs 0)) (.agg (plainCs 0))).run Tryz.prog w = .ok (.bool false) w := by kernel_rfl
theorem neq_plain1 (x y : Operand) (w : World) : (do eqGuard .neq 96 x y (.agg (plainCs 1)) (.agg (plainCs 0)); binOp .neq 96 (.agg (plainCs 1)) (.agg (plainCs 0))).run Tryz.prog w = .ok (.bool true) w := by kernel_rfl
set_option maxRecDepth 100000 in
theorem look_use {w : World} {b : Nat} (hm : w.ownsMap Tryz.prog 22 RV b 19 (.map useL)) (k : Int) (hk : (Lit.int .i64 k).wf = true) (f : Nat) (h1 : (DataW.map useL).atKey (.int .i64 k) (.held .nilFunc) = .held (fnv f)) (h2 : Go.Maps.has (DataW.map useL) (.int .i64 k) = true) :
    (Instr.lookup 91 (.map (some b)) (.int .i64 k) true).run Tryz.prog w = .ok (.tuple #[.func (.func f) #[] #[], .bool true]) w := by
  generalize useL = L at *
  obtain ⟨v, ps, hrun, hv⟩ := hm.look_ok lawKind Tryz.underlying91 (zeroUse w) (zd := .held .nilFunc) (zp := []) rfl (Go.Maps.keyOf_int_mk Tryz.underlying22 hk)
  rw [h1] at hv
  rw [h2] at hrun
  injection hv with hv
  injection hv with hv _
  injection hv with hv
  rw [hrun, hv]
  rfl
set_option maxRecDepth 100000 in
set_option maxHeartbeats 8000000 in
theorem check_ping0 (w : World) : Calls Tryz.prog 11 #[.agg (pingCs 0 3)] w fun e w' => e = .returned (.int .i64 0) ∧ Below w.heap.size w w' := by
  go_enter Tryz.func11, Tryz.ntmps11
  go_upto_region 1 with fail
  refine wp_region_late (S0 := fun w' => Hid (Blk w' w.heap.size 38 (pingCs 0 3))) (S := fun w' => Hid (Blk w' w.heap.size 38 (pingCs 0 3))) 8 9 (by kernel_rfl) rfl ⟨Lib.hid (Blk.new w _ _), Lib.hid (Blk.new w _ _)⟩ (fun wd hwd hH => ?_)
  have HB := Lib.hid (show Below w.heap.size w wd from by rw [hwd]; exact ((Below.refl _ _).alloc (Nat.le_refl _) _).drew)
  have HG := Lib.hid (show w.heap.size < wd.heap.size from by rw [hwd]; simp)
  clear hwd
  refine wpAnyT_stay 1 (v := ?_) rfl (by kernel_rfl) (fun _ _ _ h => h) (Or.inl ⟨by rfl, ?_⟩) ⟨hH.1, fun _ => hH.2⟩ ?_
  rotate_left
  · (intro wx hx; clear hx; go_simp <;> with_reducible rfl)
  try simp only [Act.put, List.setIfInBounds_toArray, List.set_cons_zero, List.set_cons_succ]
  refine wpAnyT_stay 2 (v := ?_) rfl (by kernel_rfl) (fun _ _ _ h => h) (Or.inl ⟨by rfl, ?_⟩) ⟨hH.1, fun _ => hH.2⟩ ?_
  rotate_left
  · (intro wx hx; have c0 : wx.cell? ⟨w.heap.size, 0, none⟩ = some (.int .i64 18) := hx.out.cell 0; clear hx; go_simp <;> with_reducible rfl)
  try simp only [Act.put, List.setIfInBounds_toArray, List.set_cons_zero, List.set_cons_succ]
  refine wpAnyT_one 0 rfl (by kernel_rfl) (fun K hQ => ?_)
  rw [if_pos (by rfl)]
  go_simp
  go_at_call 33
  refine (uses_any wd).mono ?_
  rintro ev w2 ⟨rfl, hm, hb⟩
  have HM := Lib.hid hm
  have HB2 := Lib.hid (HB.out.trans (hb.mono (Nat.le_of_lt HG.out)))
  have HK := Lib.hid (hH.1.out.below hb HG.out)
  refine hQ.out _ _ ⟨HK, HK⟩ (fun hH1 => ?_)
  clear hQ K hb hm
  try simp only [Act.put, List.setIfInBounds_toArray, List.set_cons_zero, List.set_cons_succ]
  refine wpAnyT_one 3 rfl (by kernel_rfl) (fun K hQ => ?_)
  rw [if_pos (by rfl)]
  have hl := look_use HM.out 18 rfl _ look_ping has_ping
  go_simp
  clear hl
  refine hQ.out _ _ ⟨HK, HK⟩ (fun hH2 => ?_)
  clear hQ K
  try simp only [Act.put, List.setIfInBounds_toArray, List.set_cons_zero, List.set_cons_succ]
  refine wpAnyT_one 4 rfl (by kernel_rfl) (fun K hQ => ?_)
  rw [if_pos (by rfl)]
  go_simp
  refine hQ.out _ _ ⟨HK, HK⟩ (fun hH2 => ?_)
  clear hQ K
  try simp only [Act.put, List.setIfInBounds_toArray, List.set_cons_zero, List.set_cons_succ]
  refine wpAnyT_stay 5 (v := ?_) rfl (by kernel_rfl) (fun _ _ _ h => h) (Or.inl ⟨by rfl, ?_⟩) ⟨hH2.1, fun _ => hH2.2⟩ ?_
  rotate_left
  · (intro wx hx; clear hx; go_simp <;> with_reducible rfl)
  try simp only [Act.put, List.setIfInBounds_toArray, List.set_cons_zero, List.set_cons_succ]
  refine wpAnyT_stay 6 (v := ?_) rfl (by kernel_rfl) (fun _ _ _ h => h) (Or.inl ⟨by rfl, ?_⟩) ⟨hH2.1, fun _ => hH2.2⟩ ?_
  rotate_left
  · (intro wx hx; clear hx; go_simp <;> with_reducible rfl)
  try simp only [Act.put, List.setIfInBounds_toArray, List.set_cons_zero, List.set_cons_succ]
  refine wpAnyT_one 7 rfl (by kernel_rfl) (fun K hQ => ?_)
  rw [if_pos (by rfl)]
  go_simp
  refine hQ.out _ _ ⟨HK, HK⟩ (fun hH2 => ?_)
  clear hQ K
  try simp only [Act.put, List.setIfInBounds_toArray, List.set_cons_zero, List.set_cons_succ]
  refine wpAnyT_last 8 rfl (by kernel_rfl) (by decide) (fun K hQ => ?_)
  rw [if_pos (by rfl)]
  go_simp
  refine hQ.out _ _ HK (fun hH2 => ?_)
  clear hQ K
  try simp only [Act.put, List.setIfInBounds_toArray, List.set_cons_zero, List.set_cons_succ]
  refine wpAnyT_done (by kernel_rfl) ?_ _
  clear hH hH1 hH2
  go_upto_region 6 with (first
                         | (refine (use_ping w.heap.size 0 3 w2 HK).mono ?_; rintro ev w3 ⟨rfl, hw⟩
                            have HB3 := Lib.hid (HB2.out.trans ((Only.set_ w2 w.heap.size 7 (.int .u64 0)).below (Nat.le_refl _)))
                            have HK3 : Blk (w2.setCell ⟨w.heap.size, 7, none⟩ (.int .u64 0)) w.heap.size 38 (pingCs 0 0) := HK.out.set_ 7 (.int .u64 0)
                            rw [← hw] at HB3 HK3
                            clear hw HK hH2
                            have c3 : w3.cell? ⟨w.heap.size, 3, none⟩ = some (.int .u64 0) := HK3.cell 3
                            have c4 : w3.cell? ⟨w.heap.size, 4, none⟩ = some (.int .u64 0) := HK3.cell 4
                            have c5 : w3.cell? ⟨w.heap.size, 5, none⟩ = some (.int .u64 0) := HK3.cell 5
                            have c6 : w3.cell? ⟨w.heap.size, 6, none⟩ = some (.int .u64 0) := HK3.cell 6
                            have c7 : w3.cell? ⟨w.heap.size, 7, none⟩ = some (.int .u64 0) := HK3.cell 7
                            have c8 : w3.cell? ⟨w.heap.size, 8, none⟩ = some (.bool false) := HK3.cell 8
                            have c9 : w3.cell? ⟨w.heap.size, 9, none⟩ = some (.bool false) := HK3.cell 9
                            have c10 : w3.cell? ⟨w.heap.size, 10, none⟩ = some (.slice none 0 0) := HK3.cell 10
                            have c11 : w3.cell? ⟨w.heap.size, 11, none⟩ = some (.slice none 0 0) := HK3.cell 11
                            have c12 : w3.cell? ⟨w.heap.size, 12, none⟩ = some (.slice none 0 0) := HK3.cell 12
                            have c13 : w3.cell? ⟨w.heap.size, 13, none⟩ = some (.int .u64 0) := HK3.cell 13
                            have c14 : w3.cell? ⟨w.heap.size, 14, none⟩ = some (.int .i64 0) := HK3.cell 14
                            have c15 : w3.cell? ⟨w.heap.size, 15, none⟩ = some (.int .u64 0) := HK3.cell 15
                            have c16 : w3.cell? ⟨w.heap.size, 16, none⟩ = some (.int .i64 0) := HK3.cell 16
                            have c17 : w3.cell? ⟨w.heap.size, 17, none⟩ = some (.int .i64 0) := HK3.cell 17
                            have c18 : w3.cell? ⟨w.heap.size, 18, none⟩ = some (.int .i64 0) := HK3.cell 18
                            have c19 : w3.cell? ⟨w.heap.size, 19, none⟩ = some (.int .u32 0) := HK3.cell 19
                            have c20 : w3.cell? ⟨w.heap.size, 20, none⟩ = some (.slice none 0 0) := HK3.cell 20
                            have c21 : w3.cell? ⟨w.heap.size, 21, none⟩ = some (.int .u64 0) := HK3.cell 21
                            have c22 : w3.cell? ⟨w.heap.size, 22, none⟩ = some (.int .u64 0) := HK3.cell 22
                            have c23 : w3.cell? ⟨w.heap.size, 23, none⟩ = some (.int .i64 0) := HK3.cell 23
                            have c24 : w3.cell? ⟨w.heap.size, 24, none⟩ = some (.string ⟨#[]⟩) := HK3.cell 24
                            have c25 : w3.cell? ⟨w.heap.size, 25, none⟩ = some (.int .i64 0) := HK3.cell 25
                            have c26 : w3.cell? ⟨w.heap.size, 26, none⟩ = some (.slice none 0 0) := HK3.cell 26
                            clear HK3)
                         | (refine wpl_store_blk rfl 96 _ _ rfl w3.heap.size 96 (plainCs 0) (plainCs 0) rfl rfl (Blk.new w3 _ _) rfl sizePl rfl ?_; intro w4 HB4 HO4))
  clear c3 c4 c5 c6 c7 c8 c9 c10 c11 c12 c13 c14 c15 c16 c17 c18 c19 c20 c21 c22 c23 c24 c25 c26 hH2
  go_wp2_with (first
               | (refine wpl_load_blk rfl 96 (.tmp 5) rfl w3.heap.size _ (plainCs 0) _ rfl HB4.out Tryz.underlying96 rfl sizePl ?_)
               | (refine wpl_bin rfl .neq 96 _ (.tmp 62) (.tmp 63) rfl (.bool false) (neq_plain0 _ _ _) ?_))
  go_ret
  exact ⟨rfl, (HB3.out.alloc HB3.out.size _).trans (HO4.out.below HB3.out.size)⟩
set_option maxRecDepth 100000 in
set_option maxHeartbeats 8000000 in
theorem check_ping1 (w : World) : Calls Tryz.prog 11 #[.agg (pingCs 1 3)] w fun e w' => e = .returned (.int .i64 2) ∧ Below w.heap.size w w' := by
  go_enter Tryz.func11, Tryz.ntmps11
  go_upto_region 1 with fail
  refine wp_region_late (S0 := fun w' => Hid (Blk w' w.heap.size 38 (pingCs 1 3))) (S := fun w' => Hid (Blk w' w.heap.size 38 (pingCs 1 3))) 8 9 (by kernel_rfl) rfl ⟨Lib.hid (Blk.new w _ _), Lib.hid (Blk.new w _ _)⟩ (fun wd hwd hH => ?_)
  have HB := Lib.hid (show Below w.heap.size w wd from by rw [hwd]; exact ((Below.refl _ _).alloc (Nat.le_refl _) _).drew)
  have HG := Lib.hid (show w.heap.size < wd.heap.size from by rw [hwd]; simp)
  clear hwd
  refine wpAnyT_stay 1 (v := ?_) rfl (by kernel_rfl) (fun _ _ _ h => h) (Or.inl ⟨by rfl, ?_⟩) ⟨hH.1, fun _ => hH.2⟩ ?_
  rotate_left
  · (intro wx hx; clear hx; go_simp <;> with_reducible rfl)
  try simp only [Act.put, List.setIfInBounds_toArray, List.set_cons_zero, List.set_cons_succ]
  refine wpAnyT_stay 2 (v := ?_) rfl (by kernel_rfl) (fun _ _ _ h => h) (Or.inl ⟨by rfl, ?_⟩) ⟨hH.1, fun _ => hH.2⟩ ?_
  rotate_left
  · (intro wx hx; have c0 : wx.cell? ⟨w.heap.size, 0, none⟩ = some (.int .i64 18) := hx.out.cell 0; clear hx; go_simp <;> with_reducible rfl)
  try simp only [Act.put, List.setIfInBounds_toArray, List.set_cons_zero, List.set_cons_succ]
  refine wpAnyT_one 0 rfl (by kernel_rfl) (fun K hQ => ?_)
  rw [if_pos (by rfl)]
  go_simp
  go_at_call 33
  refine (uses_any wd).mono ?_
  rintro ev w2 ⟨rfl, hm, hb⟩
  have HM := Lib.hid hm
  have HB2 := Lib.hid (HB.out.trans (hb.mono (Nat.le_of_lt HG.out)))
  have HK := Lib.hid (hH.1.out.below hb HG.out)
  refine hQ.out _ _ ⟨HK, HK⟩ (fun hH1 => ?_)
  clear hQ K hb hm
  try simp only [Act.put, List.setIfInBounds_toArray, List.set_cons_zero, List.set_cons_succ]
  refine wpAnyT_one 3 rfl (by kernel_rfl) (fun K hQ => ?_)
  rw [if_pos (by rfl)]
  have hl := look_use HM.out 18 rfl _ look_ping has_ping
  go_simp
  clear hl
  refine hQ.out _ _ ⟨HK, HK⟩ (fun hH2 => ?_)
  clear hQ K
  try simp only [Act.put, List.setIfInBounds_toArray, List.set_cons_zero, List.set_cons_succ]
  refine wpAnyT_one 4 rfl (by kernel_rfl) (fun K hQ => ?_)
  rw [if_pos (by rfl)]
  go_simp
  refine hQ.out _ _ ⟨HK, HK⟩ (fun hH2 => ?_)
  clear hQ K
  try simp only [Act.put, List.setIfInBounds_toArray, List.set_cons_zero, List.set_cons_succ]
  refine wpAnyT_stay 5 (v := ?_) rfl (by kernel_rfl) (fun _ _ _ h => h) (Or.inl ⟨by rfl, ?_⟩) ⟨hH2.1, fun _ => hH2.2⟩ ?_
  rotate_left
  · (intro wx hx; clear hx; go_simp <;> with_reducible rfl)
  try simp only [Act.put, List.setIfInBounds_toArray, List.set_cons_zero, List.set_cons_succ]
  refine wpAnyT_stay 6 (v := ?_) rfl (by kernel_rfl) (fun _ _ _ h => h) (Or.inl ⟨by rfl, ?_⟩) ⟨hH2.1, fun _ => hH2.2⟩ ?_
  rotate_left
  · (intro wx hx; clear hx; go_simp <;> with_reducible rfl)
  try simp only [Act.put, List.setIfInBounds_toArray, List.set_cons_zero, List.set_cons_succ]
  refine wpAnyT_one 7 rfl (by kernel_rfl) (fun K hQ => ?_)
  rw [if_pos (by rfl)]
  go_simp
  refine hQ.out _ _ ⟨HK, HK⟩ (fun hH2 => ?_)
  clear hQ K
  try simp only [Act.put, List.setIfInBounds_toArray, List.set_cons_zero, List.set_cons_succ]
  refine wpAnyT_last 8 rfl (by kernel_rfl) (by decide) (fun K hQ => ?_)
  rw [if_pos (by rfl)]
  go_simp
  refine hQ.out _ _ HK (fun hH2 => ?_)
  clear hQ K
  try simp only [Act.put, List.setIfInBounds_toArray, List.set_cons_zero, List.set_cons_succ]
  refine wpAnyT_done (by kernel_rfl) ?_ _
  clear hH hH1 hH2
  go_upto_region 6 with (first
                         | (refine (use_ping w.heap.size 1 3 w2 HK).mono ?_; rintro ev w3 ⟨rfl, hw⟩
                            have HB3 := Lib.hid (HB2.out.trans ((Only.set_ w2 w.heap.size 7 (.int .u64 0)).below (Nat.le_refl _)))
                            have HK3 : Blk (w2.setCell ⟨w.heap.size, 7, none⟩ (.int .u64 0)) w.heap.size 38 (pingCs 1 0) := HK.out.set_ 7 (.int .u64 0)
                            rw [← hw] at HB3 HK3
                            clear hw HK hH2
                            have c3 : w3.cell? ⟨w.heap.size, 3, none⟩ = some (.int .u64 1) := HK3.cell 3
                            have c4 : w3.cell? ⟨w.heap.size, 4, none⟩ = some (.int .u64 0) := HK3.cell 4
                            have c5 : w3.cell? ⟨w.heap.size, 5, none⟩ = some (.int .u64 0) := HK3.cell 5
                            have c6 : w3.cell? ⟨w.heap.size, 6, none⟩ = some (.int .u64 0) := HK3.cell 6
                            have c7 : w3.cell? ⟨w.heap.size, 7, none⟩ = some (.int .u64 0) := HK3.cell 7
                            have c8 : w3.cell? ⟨w.heap.size, 8, none⟩ = some (.bool false) := HK3.cell 8
                            have c9 : w3.cell? ⟨w.heap.size, 9, none⟩ = some (.bool false) := HK3.cell 9
                            have c10 : w3.cell? ⟨w.heap.size, 10, none⟩ = some (.slice none 0 0) := HK3.cell 10
                            have c11 : w3.cell? ⟨w.heap.size, 11, none⟩ = some (.slice none 0 0) := HK3.cell 11
                            have c12 : w3.cell? ⟨w.heap.size, 12, none⟩ = some (.slice none 0 0) := HK3.cell 12
                            have c13 : w3.cell? ⟨w.heap.size, 13, none⟩ = some (.int .u64 0) := HK3.cell 13
                            have c14 : w3.cell? ⟨w.heap.size, 14, none⟩ = some (.int .i64 0) := HK3.cell 14
                            have c15 : w3.cell? ⟨w.heap.size, 15, none⟩ = some (.int .u64 0) := HK3.cell 15
                            have c16 : w3.cell? ⟨w.heap.size, 16, none⟩ = some (.int .i64 0) := HK3.cell 16
                            have c17 : w3.cell? ⟨w.heap.size, 17, none⟩ = some (.int .i64 0) := HK3.cell 17
                            have c18 : w3.cell? ⟨w.heap.size, 18, none⟩ = some (.int .i64 0) := HK3.cell 18
                            have c19 : w3.cell? ⟨w.heap.size, 19, none⟩ = some (.int .u32 0) := HK3.cell 19
                            have c20 : w3.cell? ⟨w.heap.size, 20, none⟩ = some (.slice none 0 0) := HK3.cell 20
                            have c21 : w3.cell? ⟨w.heap.size, 21, none⟩ = some (.int .u64 0) := HK3.cell 21
                            have c22 : w3.cell? ⟨w.heap.size, 22, none⟩ = some (.int .u64 0) := HK3.cell 22
                            have c23 : w3.cell? ⟨w.heap.size, 23, none⟩ = some (.int .i64 0) := HK3.cell 23
                            have c24 : w3.cell? ⟨w.heap.size, 24, none⟩ = some (.string ⟨#[]⟩) := HK3.cell 24
                            have c25 : w3.cell? ⟨w.heap.size, 25, none⟩ = some (.int .i64 0) := HK3.cell 25
                            have c26 : w3.cell? ⟨w.heap.size, 26, none⟩ = some (.slice none 0 0) := HK3.cell 26
                            clear HK3)
                         | (refine wpl_store_blk rfl 96 _ _ rfl w3.heap.size 96 (plainCs 0) (plainCs 1) rfl rfl (Blk.new w3 _ _) rfl sizePl rfl ?_; intro w4 HB4 HO4))
  clear c3 c4 c5 c6 c7 c8 c9 c10 c11 c12 c13 c14 c15 c16 c17 c18 c19 c20 c21 c22 c23 c24 c25 c26 hH2
  go_wp2_with (first
               | (refine wpl_load_blk rfl 96 (.tmp 5) rfl w3.heap.size _ (plainCs 1) _ rfl HB4.out Tryz.underlying96 rfl sizePl ?_)
               | (refine wpl_bin rfl .neq 96 _ (.tmp 62) (.tmp 63) rfl (.bool true) (neq_plain1 _ _ _) ?_))
  go_ret
  exact ⟨rfl, (HB3.out.alloc HB3.out.size _).trans (HO4.out.below HB3.out.size)⟩
end Go.Proofs.YtlnneacgllhdhaaGreatDoor
end
section
namespace Go.Proofs.YtlnneacgllhdhaaGreatDoor
open Go.RowKit OctMath
set_option linter.unusedVariables false
set_option linter.unusedSimpArgs false
/-- the ping's bytes. -/
def pingB : List Nat := [36, 2, 4, 0, 0, 0, 0, 3, 0, 0, 0, 0, 0, 0, 0, 0, 0, 0, 0, 0, 0, 0, 0, 0, 0, 0, 0]
section
variable (A : Option Addr) (cap l : Nat) (xs : List Nat) (w : World) (hr : Hid (Reads w w.heap.size 1 A l (xs.map bv))) (hl : xs.length ≤ 1000)
include hr hl
theorem pgL : l ≤ 1000 := by have := reads_len hr.out; omega
theorem pgNum (n : Nat) (hn : n < 128) : Calls Tryz.prog 24 #[.slice A l cap, .int .u64 n] w (RetB (xs ++ [n]) w) := by
  have h := putnumB A cap l xs w hr n (by omega) (by have := pgL A l xs w hr hl; omega)
  rwa [putN_small hn] at h
theorem pgInt (n : Int) (m : Nat) (hz : zz n = m) (hm : m < 128) (n1 : -9223372036854775808 ≤ n) (n2 : n ≤ 9223372036854775807) : Calls Tryz.prog 23 #[.slice A l cap, .int .i64 n] w (RetB (xs ++ [m]) w) := by
  have h := putintB A cap l xs w hr n n1 n2 (by have := pgL A l xs w hr hl; omega)
  rwa [hz, putN_small hm] at h
theorem pgFlag : Calls Tryz.prog 25 #[.slice A l cap, .bool false] w (RetB (xs ++ [0]) w) := putflagB A cap l xs w hr false (by have := pgL A l xs w hr hl; omega)
theorem pgBytes (B : Option Addr) (cap' : Nat) (hr' : Hid (Reads w w.heap.size 1 B 0 (([] : List Nat).map bv))) : Calls Tryz.prog 29 #[.slice A l cap, .slice B 0 cap'] w (RetB (xs ++ [0]) w) := by
  have h := putbytesB A cap l xs w hr B cap' 0 [] hr' (by have := pgL A l xs w hr hl; omega)
  rwa [putN_small (by decide)] at h
theorem pgConf : Calls Tryz.prog 27 #[.slice A l cap, .agg #[.slice none 0 0, .slice none 0 0]] w (RetO (xs ++ [0, 0]) w) := by
  have h := put_conf A l cap xs none 0 none 0 ([], []) w hr (Lib.hid (Reads.none_)) (Lib.hid (Reads.none_)) ⟨⟨by simp, by simp⟩, ⟨by simp, by simp⟩⟩ (by have := pgL A l xs w hr hl; omega)
  have e : pConf ([], []) = [0, 0] := by simp [pConf, pList, putN_small]
  rwa [e] at h
theorem pgHead : Calls Tryz.prog 28 #[.slice A l cap, .agg #[.int .u64 0, .int .i64 0, .int .u64 0, .int .i64 0, .int .i64 0, .int .i64 0, .int .u32 0]] w (RetO (xs ++ [0, 0, 0, 0, 0, 0, 0]) w) := by
  have h := put_header A l cap xs ⟨⟨0, 0, 0⟩, 0, 0, 0, 0⟩ w hr ⟨by decide, ⟨by decide, by decide⟩, by decide, ⟨by decide, by decide⟩, ⟨by decide, by decide⟩, ⟨by decide, by decide⟩, by decide⟩ (by have := pgL A l xs w hr hl; omega)
  have e : pHd ⟨⟨0, 0, 0⟩, 0, 0, 0, 0⟩ = [0, 0, 0, 0, 0, 0, 0] := by simp [pHd, pId, pInt, zz, putN_small]
  rwa [e] at h
end
set_option maxRecDepth 100000 in
set_option maxHeartbeats 8000000 in
theorem put_ping (w : World) : Calls Tryz.prog 9 #[.agg (pingCs 0 3)] w (RetB pingB w) := by
  obtain ⟨w0, ew⟩ : ∃ w0, w.alloc (.cells (pingCs 0 3) 38) = w0 := ⟨_, rfl⟩
  have hx : Blk (w.alloc (.cells (pingCs 0 3) 38)) w.heap.size 38 (pingCs 0 3) := Blk.new w _ _
  have hb : Below w.heap.size w (w.alloc (.cells (pingCs 0 3) 38)) := (Below.refl _ _).alloc (Nat.le_refl _) _
  rw [ew] at hx hb
  have B0 := Lib.hid hx
  have K0 := Lib.hid hb
  have R0 : Hid (Reads w0 w0.heap.size 1 none 0 (([] : List Nat).map bv)) := Lib.hid (Reads.none_)
  clear hx hb
  have c0 : w0.cell? ⟨w.heap.size, 0, none⟩ = some (.int .i64 18) := B0.out.cell 0
  go_enter Tryz.func9, Tryz.ntmps9
  go_wp2_with (rw [ew])
  refine (pgInt none 0 0 [] w0 R0 (by decide) 18 36 (by decide) (by decide) (by decide) (by decide)).mono ?_
  rintro e w1 ⟨A1, l1, n1, rfl, R1, hb, -, -⟩
  have B1 := Lib.hid (B0.out.below hb B0.out.lt)
  have K1 := Lib.hid (K0.out.trans (hb.mono K0.out.size))
  clear hb B0 K0 c0 R0 ew
  have c1 : w1.cell? ⟨w.heap.size, 1, none⟩ = some (.int .i64 1) := B1.out.cell 1
  go_wp2_with fail
  refine (pgInt _ _ _ [36] w1 R1 (by decide) 1 2 (by decide) (by decide) (by decide) (by decide)).mono ?_
  rintro e w2 ⟨A2, l2, n2, rfl, R2, hb, -, -⟩
  have B2 := Lib.hid (B1.out.below hb B1.out.lt)
  have K2 := Lib.hid (K1.out.trans (hb.mono K1.out.size))
  clear hb B1 K1 c1 R1
  have c2 : w2.cell? ⟨w.heap.size, 2, none⟩ = some (.int .i64 2) := B2.out.cell 2
  go_wp2_with fail
  refine (pgInt _ _ _ [36, 2] w2 R2 (by decide) 2 4 (by decide) (by decide) (by decide) (by decide)).mono ?_
  rintro e w3 ⟨A3, l3, n3, rfl, R3, hb, -, -⟩
  have B3 := Lib.hid (B2.out.below hb B2.out.lt)
  have K3 := Lib.hid (K2.out.trans (hb.mono K2.out.size))
  clear hb B2 K2 c2 R2
  have c3 : w3.cell? ⟨w.heap.size, 3, none⟩ = some (.int .u64 0) := B3.out.cell 3
  have c4 : w3.cell? ⟨w.heap.size, 4, none⟩ = some (.int .u64 0) := B3.out.cell 4
  have c5 : w3.cell? ⟨w.heap.size, 5, none⟩ = some (.int .u64 0) := B3.out.cell 5
  have c6 : w3.cell? ⟨w.heap.size, 6, none⟩ = some (.int .u64 0) := B3.out.cell 6
  have c7 : w3.cell? ⟨w.heap.size, 7, none⟩ = some (.int .u64 3) := B3.out.cell 7
  go_wp2_with fail
  have ix0 : ∀ W, (Instr.index 68 (.agg #[.int .u64 0, .int .u64 0, .int .u64 0, .int .u64 0, .int .u64 3]) (.int .i64 0)).run Tryz.prog W = .ok (.int .u64 0) W := fun W => by kernel_rfl
  have ix1 : ∀ W, (Instr.index 68 (.agg #[.int .u64 0, .int .u64 0, .int .u64 0, .int .u64 0, .int .u64 3]) (.int .i64 1)).run Tryz.prog W = .ok (.int .u64 0) W := fun W => by kernel_rfl
  have ix2 : ∀ W, (Instr.index 68 (.agg #[.int .u64 0, .int .u64 0, .int .u64 0, .int .u64 0, .int .u64 3]) (.int .i64 2)).run Tryz.prog W = .ok (.int .u64 0) W := fun W => by kernel_rfl
  have ix3 : ∀ W, (Instr.index 68 (.agg #[.int .u64 0, .int .u64 0, .int .u64 0, .int .u64 0, .int .u64 3]) (.int .i64 3)).run Tryz.prog W = .ok (.int .u64 0) W := fun W => by kernel_rfl
  have ix4 : ∀ W, (Instr.index 68 (.agg #[.int .u64 0, .int .u64 0, .int .u64 0, .int .u64 0, .int .u64 3]) (.int .i64 4)).run Tryz.prog W = .ok (.int .u64 3) W := fun W => by kernel_rfl
  refine wp_loop_rounds 7 ?_
  rw [rounds_succ]
  go_wp2_with fail
  refine (pgNum _ _ _ [36, 2, 4] w3 R3 (by decide) 0 (by decide)).mono ?_
  rintro e w4 ⟨A4, l4, n4, rfl, R4, hb, -, -⟩
  have B4 := Lib.hid (B3.out.below hb B3.out.lt)
  have K4 := Lib.hid (K3.out.trans (hb.mono K3.out.size))
  clear hb B3 K3 R3
  go_wp2_with fail
  rw [rounds_succ]
  go_wp2_with fail
  refine (pgNum _ _ _ [36, 2, 4, 0] w4 R4 (by decide) 0 (by decide)).mono ?_
  rintro e w5 ⟨A5, l5, n5, rfl, R5, hb, -, -⟩
  have B5 := Lib.hid (B4.out.below hb B4.out.lt)
  have K5 := Lib.hid (K4.out.trans (hb.mono K4.out.size))
  clear hb B4 K4 R4
  go_wp2_with fail
  rw [rounds_succ]
  go_wp2_with fail
  refine (pgNum _ _ _ [36, 2, 4, 0, 0] w5 R5 (by decide) 0 (by decide)).mono ?_
  rintro e w6 ⟨A6, l6, n6, rfl, R6, hb, -, -⟩
  have B6 := Lib.hid (B5.out.below hb B5.out.lt)
  have K6 := Lib.hid (K5.out.trans (hb.mono K5.out.size))
  clear hb B5 K5 R5
  go_wp2_with fail
  rw [rounds_succ]
  go_wp2_with fail
  refine (pgNum _ _ _ [36, 2, 4, 0, 0, 0] w6 R6 (by decide) 0 (by decide)).mono ?_
  rintro e w7 ⟨A7, l7, n7, rfl, R7, hb, -, -⟩
  have B7 := Lib.hid (B6.out.below hb B6.out.lt)
  have K7 := Lib.hid (K6.out.trans (hb.mono K6.out.size))
  clear hb B6 K6 R6
  go_wp2_with fail
  rw [rounds_succ]
  go_wp2_with fail
  refine (pgNum _ _ _ [36, 2, 4, 0, 0, 0, 0] w7 R7 (by decide) 3 (by decide)).mono ?_
  rintro e w8 ⟨A8, l8, n8, rfl, R8, hb, -, -⟩
  have B8 := Lib.hid (B7.out.below hb B7.out.lt)
  have K8 := Lib.hid (K7.out.trans (hb.mono K7.out.size))
  clear hb B7 K7 c3 c4 c5 c6 c7 R7
  have c8 : w8.cell? ⟨w.heap.size, 8, none⟩ = some (.bool false) := B8.out.cell 8
  go_wp2_with fail
  rw [rounds_succ]
  go_wp2_with fail
  refine (pgFlag _ _ _ [36, 2, 4, 0, 0, 0, 0, 3] w8 R8 (by decide)).mono ?_
  rintro e w9 ⟨A9, l9, n9, rfl, R9, hb, -, -⟩
  have B9 := Lib.hid (B8.out.below hb B8.out.lt)
  have K9 := Lib.hid (K8.out.trans (hb.mono K8.out.size))
  clear hb B8 K8 c8 R8
  have c9 : w9.cell? ⟨w.heap.size, 9, none⟩ = some (.bool false) := B9.out.cell 9
  go_wp2_with fail
  refine (pgFlag _ _ _ [36, 2, 4, 0, 0, 0, 0, 3, 0] w9 R9 (by decide)).mono ?_
  rintro e w10 ⟨A10, l10, n10, rfl, R10, hb, -, -⟩
  have B10 := Lib.hid (B9.out.below hb B9.out.lt)
  have K10 := Lib.hid (K9.out.trans (hb.mono K9.out.size))
  clear hb B9 K9 c9 R9
  have c10 : w10.cell? ⟨w.heap.size, 10, none⟩ = some (.slice none 0 0) := B10.out.cell 10
  go_wp2_with fail
  refine (pgNum _ _ _ [36, 2, 4, 0, 0, 0, 0, 3, 0, 0] w10 R10 (by decide) 0 (by decide)).mono ?_
  rintro e w11 ⟨A11, l11, n11, rfl, R11, hb, -, -⟩
  have B11 := Lib.hid (B10.out.below hb B10.out.lt)
  have K11 := Lib.hid (K10.out.trans (hb.mono K10.out.size))
  clear hb B10 K10 c10 R10
  have c10 : w11.cell? ⟨w.heap.size, 10, none⟩ = some (.slice none 0 0) := B11.out.cell 10
  have c11 : w11.cell? ⟨w.heap.size, 11, none⟩ = some (.slice none 0 0) := B11.out.cell 11
  have c12 : w11.cell? ⟨w.heap.size, 12, none⟩ = some (.slice none 0 0) := B11.out.cell 12
  go_wp2_with fail
  refine wp_loop_rounds 2 ?_
  rw [rounds_succ]
  go_wp2_with fail
  refine (pgConf _ _ _ [36, 2, 4, 0, 0, 0, 0, 3, 0, 0, 0] w11 R11 (by decide)).mono ?_
  rintro e w12 ⟨A12, n12, rfl, r12, hb⟩
  have R12 := r12
  have B12 := Lib.hid (B11.out.below hb B11.out.lt)
  have K12 := Lib.hid (K11.out.trans (hb.mono K11.out.size))
  clear hb B11 K11 c10 c11 c12 R11
  have c13 : w12.cell? ⟨w.heap.size, 13, none⟩ = some (.int .u64 0) := B12.out.cell 13
  have c14 : w12.cell? ⟨w.heap.size, 14, none⟩ = some (.int .i64 0) := B12.out.cell 14
  have c15 : w12.cell? ⟨w.heap.size, 15, none⟩ = some (.int .u64 0) := B12.out.cell 15
  have c16 : w12.cell? ⟨w.heap.size, 16, none⟩ = some (.int .i64 0) := B12.out.cell 16
  have c17 : w12.cell? ⟨w.heap.size, 17, none⟩ = some (.int .i64 0) := B12.out.cell 17
  have c18 : w12.cell? ⟨w.heap.size, 18, none⟩ = some (.int .i64 0) := B12.out.cell 18
  have c19 : w12.cell? ⟨w.heap.size, 19, none⟩ = some (.int .u32 0) := B12.out.cell 19
  go_wp2_with fail
  refine (pgHead _ _ _ [36, 2, 4, 0, 0, 0, 0, 3, 0, 0, 0, 0, 0] w12 R12 (by decide)).mono ?_
  rintro e w13 ⟨A13, n13, rfl, r13, hb⟩
  have R13 := r13
  have B13 := Lib.hid (B12.out.below hb B12.out.lt)
  have K13 := Lib.hid (K12.out.trans (hb.mono K12.out.size))
  clear hb B12 K12 c13 c14 c15 c16 c17 c18 c19 R12
  have c20 : w13.cell? ⟨w.heap.size, 20, none⟩ = some (.slice none 0 0) := B13.out.cell 20
  go_wp2_with fail
  refine (pgBytes _ _ _ [36, 2, 4, 0, 0, 0, 0, 3, 0, 0, 0, 0, 0, 0, 0, 0, 0, 0, 0, 0] w13 R13 (by decide) none 0 (Lib.hid Reads.none_)).mono ?_
  rintro e w14 ⟨A14, l14, n14, rfl, R14, hb, -, -⟩
  have B14 := Lib.hid (B13.out.below hb B13.out.lt)
  have K14 := Lib.hid (K13.out.trans (hb.mono K13.out.size))
  clear hb B13 K13 c20 R13
  have c21 : w14.cell? ⟨w.heap.size, 21, none⟩ = some (.int .u64 0) := B14.out.cell 21
  go_wp2_with fail
  refine (pgNum _ _ _ [36, 2, 4, 0, 0, 0, 0, 3, 0, 0, 0, 0, 0, 0, 0, 0, 0, 0, 0, 0, 0] w14 R14 (by decide) 0 (by decide)).mono ?_
  rintro e w15 ⟨A15, l15, n15, rfl, R15, hb, -, -⟩
  have B15 := Lib.hid (B14.out.below hb B14.out.lt)
  have K15 := Lib.hid (K14.out.trans (hb.mono K14.out.size))
  clear hb B14 K14 c21 R14
  have c22 : w15.cell? ⟨w.heap.size, 22, none⟩ = some (.int .u64 0) := B15.out.cell 22
  go_wp2_with fail
  refine (pgNum _ _ _ [36, 2, 4, 0, 0, 0, 0, 3, 0, 0, 0, 0, 0, 0, 0, 0, 0, 0, 0, 0, 0, 0] w15 R15 (by decide) 0 (by decide)).mono ?_
  rintro e w16 ⟨A16, l16, n16, rfl, R16, hb, -, -⟩
  have B16 := Lib.hid (B15.out.below hb B15.out.lt)
  have K16 := Lib.hid (K15.out.trans (hb.mono K15.out.size))
  clear hb B15 K15 c22 R15
  have c23 : w16.cell? ⟨w.heap.size, 23, none⟩ = some (.int .i64 0) := B16.out.cell 23
  go_wp2_with fail
  refine (pgInt _ _ _ [36, 2, 4, 0, 0, 0, 0, 3, 0, 0, 0, 0, 0, 0, 0, 0, 0, 0, 0, 0, 0, 0, 0] w16 R16 (by decide) 0 0 (by decide) (by decide) (by decide) (by decide)).mono ?_
  rintro e w17 ⟨A17, l17, n17, rfl, R17, hb, -, -⟩
  have B17 := Lib.hid (B16.out.below hb B16.out.lt)
  have K17 := Lib.hid (K16.out.trans (hb.mono K16.out.size))
  clear hb B16 K16 c23 R16
  have c24 : w17.cell? ⟨w.heap.size, 24, none⟩ = some (.string ⟨#[]⟩) := B17.out.cell 24
  skip
  have kc := Lib.run_convert_string_bytes (P := Tryz.prog) w17 9 33 5 ⟨#[]⟩ Tryz.underlying9 Tryz.underlying33 Tryz.underlying5
  have hbx := octs_bel w17 5 ⟨#[]⟩
  have hrx := octs_reads w17 5 ⟨#[]⟩
  have szx : (Lib.bytesWorld w17 5 ⟨#[]⟩).heap.size = w17.heap.size + 1 := Lib.bytesWorld_size w17 5 ⟨#[]⟩
  obtain ⟨gc, hgc⟩ : ∃ gc, grownCap w17 (⟨#[]⟩ : ByteArray).size 0 5 = gc := ⟨_, rfl⟩
  rw [hgc] at kc
  obtain ⟨w18, ewx⟩ : ∃ wx, Lib.bytesWorld w17 5 ⟨#[]⟩ = wx := ⟨_, rfl⟩
  rw [ewx] at kc hbx hrx szx
  have R18 := Lib.hid (R17.out.grow hbx)
  have B18 := Lib.hid (B17.out.below hbx B17.out.lt)
  have K18 := Lib.hid (K17.out.trans (hbx.mono K17.out.size))
  have RX : Hid (Reads w18 w18.heap.size 1 (some ⟨w17.heap.size, 0, none⟩) 0 (([] : List Nat).map bv)) := Lib.hid (hrx.more (by omega))
  simp only [show (⟨#[]⟩ : ByteArray).size = 0 from rfl] at kc
  clear hbx hrx szx ewx hgc R17 B17 K17
  go_wp2_with fail
  refine (pgBytes _ _ _ [36, 2, 4, 0, 0, 0, 0, 3, 0, 0, 0, 0, 0, 0, 0, 0, 0, 0, 0, 0, 0, 0, 0, 0] w18 R18 (by decide) _ _ RX).mono ?_
  rintro e w19 ⟨A19, l19, n19, rfl, R19, hb, -, -⟩
  have B19 := Lib.hid (B18.out.below hb B18.out.lt)
  have K19 := Lib.hid (K18.out.trans (hb.mono K18.out.size))
  clear hb B18 K18 c24 kc RX R18
  have c25 : w19.cell? ⟨w.heap.size, 25, none⟩ = some (.int .i64 0) := B19.out.cell 25
  go_wp2_with fail
  refine (pgInt _ _ _ [36, 2, 4, 0, 0, 0, 0, 3, 0, 0, 0, 0, 0, 0, 0, 0, 0, 0, 0, 0, 0, 0, 0, 0, 0] w19 R19 (by decide) 0 0 (by decide) (by decide) (by decide) (by decide)).mono ?_
  rintro e w20 ⟨A20, l20, n20, rfl, R20, hb, -, -⟩
  have B20 := Lib.hid (B19.out.below hb B19.out.lt)
  have K20 := Lib.hid (K19.out.trans (hb.mono K19.out.size))
  clear hb B19 K19 c25 R19
  have c26 : w20.cell? ⟨w.heap.size, 26, none⟩ = some (.slice none 0 0) := B20.out.cell 26
  go_wp2_with fail
  refine (pgNum _ _ _ [36, 2, 4, 0, 0, 0, 0, 3, 0, 0, 0, 0, 0, 0, 0, 0, 0, 0, 0, 0, 0, 0, 0, 0, 0, 0] w20 R20 (by decide) 0 (by decide)).mono ?_
  rintro e w21 ⟨A21, l21, n21, rfl, R21, hb, le1, le2⟩
  have le21 := And.intro le1 le2
  clear le1 le2
  have B21 := Lib.hid (B20.out.below hb B20.out.lt)
  have K21 := Lib.hid (K20.out.trans (hb.mono K20.out.size))
  clear hb B20 K20 c26 R20
  have c26 : w21.cell? ⟨w.heap.size, 26, none⟩ = some (.slice none 0 0) := B21.out.cell 26
  go_wp2_with fail
  refine wp_loop_rounds 2 ?_
  rw [rounds_succ]
  go_wp2_with fail
  go_ret
  exact ⟨_, _, _, rfl, R21, K21.out, le21.1, le21.2⟩
end Go.Proofs.YtlnneacgllhdhaaGreatDoor
end
