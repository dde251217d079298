/-
  uses: the map of what each kind uses; Check of a ping; THE COMPARISON OF PLAINS: what is left of a message is compared with nothing. (printed by gen_wirc3.py). (joined out of WirC1, WirC2, WirC3 by shake.py)
-/
import Derived.Maps.OwnSet
import Derived.Deep.Cut
import Derived.DeepKeys
import Derived.Test.YtlnneacgllhdhaaGreatDoorWpv04
import Derived.Test.YtlnneacgllhdhaaGreatDoorWpv05
import Derived.Test.YtlnneacgllhdhaaGreatDoorWpv26
section
namespace Go.Proofs.YtlnneacgllhdhaaGreatDoor
open Go.RowKit OctMath
set_option linter.unusedVariables false
set_option linter.unusedSimpArgs false
theorem wpList_insert_own {H : Type} {P : Program} (w : World) {ops : Array Oper} {rest : List Oper} {o : Oper} {a : Act} {Q : Exit → Act → World → Prop}
    (hg : o.guard = none) (m x v : Operand) (t : TypeId) (hop : o.op = Op.insert t m x v)
    (k e : TypeId) (K : Go.Maps.Keyed P k) (ht : P.underlying t = some (.map k e)) (R : Value → Option (DataW H × List MemPlace)) (b n : Nat) (D : DataW H)
    (hm : a.eval m = .map (some b)) (hown : w.ownsMap P k R b n D) (hn : n < maxLen) (key val : Value) (kl : Lit) (hx : a.eval x = key) (hv : a.eval v = val) (hkey : keyOf P k key = some kl)
    (d : DataW H) (ps : List MemPlace) (hval : R val = some (d, ps))
    (hK : ∀ w', w'.ownsMap P k R b (n + 1) (D.put kl d) → w.grownBy w' (some b) → wpList P ops Q rest (a.put o.dst undef) w') :
    wpList P ops Q (o :: rest) a w := by
  refine wpList_plain hg fun K' hK' => ?_
  obtain ⟨w', hrun, r1, r2⟩ := hown.update K ht hn hkey hval
  unfold Oper.wp
  simp [execOp, hop, hm, hx, hv, hrun, Result.andThen]
  exact hK' _ _ (hK w' r1 r2)
theorem lawKind : Go.Maps.Keyed Tryz.prog 22 := Go.Maps.int_keyed Tryz.underlying22
def RV (v : Value) : Option (DataW Value × List MemPlace) := some (.held v, [])
def fnv (n : Nat) : Value := .func (.func n) #[] #[]
def useL : List (Lit × DataW Value) := [(.int .i64 1, .held (fnv 73)), (.int .i64 2, .held (fnv 74)), (.int .i64 3, .held (fnv 73)), (.int .i64 4, .held (fnv 74)),
  (.int .i64 5, .held (fnv 77)), (.int .i64 6, .held (fnv 78)), (.int .i64 7, .held (fnv 79)), (.int .i64 8, .held (fnv 80)), (.int .i64 9, .held (fnv 81)),
  (.int .i64 10, .held (fnv 82)), (.int .i64 11, .held (fnv 75)), (.int .i64 12, .held (fnv 75)), (.int .i64 13, .held (fnv 75)), (.int .i64 14, .held (fnv 75)),
  (.int .i64 15, .held (fnv 83)), (.int .i64 16, .held (fnv 84)), (.int .i64 17, .held (fnv 85)), (.int .i64 18, .held (fnv 76)), (.int .i64 19, .held (fnv 76))]
def ins (D : DataW Value) : List (Int × Nat) → DataW Value
  | [] => D
  | x :: l => ins (D.put (.int .i64 x.1) (.held (fnv x.2))) l
def useO : List (Int × Nat) := [(1, 73), (3, 73), (2, 74), (4, 74), (5, 77), (6, 78), (7, 79), (8, 80), (9, 81), (10, 82),
  (11, 75), (12, 75), (13, 75), (14, 75), (15, 83), (16, 84), (17, 85), (18, 76), (19, 76)]
theorem ins_useO : ins (.map []) useO = .map useL := by kernel_rfl
def Um (w0 w : World) (n : Nat) (todo : List (Int × Nat)) : Prop := Hid (Below w0.heap.size w0 w ∧ w0.heap.size < w.heap.size ∧ ∃ D, w.ownsMap Tryz.prog 22 RV w0.heap.size n D ∧ ins D todo = .map useL)
theorem wpl_insert {w0 w : World} {ops : Array Oper} {rest : List Oper} {o : Oper} {a : Act} {Q : Exit → Act → World → Prop} {n : Nat} {k : Int} {f : Nat} {todo : List (Int × Nat)} (U : Um w0 w n ((k, f) :: todo))
    (hg : o.guard = none) (m x v : Operand) (hop : o.op = Op.insert 91 m x v) (hn : n < 1000) (hm : a.eval m = .map (some w0.heap.size)) (hx : a.eval x = .int .i64 k) (hv : a.eval v = fnv f) (hk : (Lit.int .i64 k).wf = true)
    (hK : ∀ w', Um w0 w' (n + 1) todo → wpList Tryz.prog ops Q rest (a.put o.dst undef) w') : wpList Tryz.prog ops Q (o :: rest) a w := by
  obtain ⟨h0, h1, D, h2, h3⟩ := U.out
  exact wpList_insert_own w hg m x v _ hop _ _ lawKind Tryz.underlying91 RV w0.heap.size n D hm h2 (by unfold maxLen; omega) _ _ _ hx hv (Go.Maps.keyOf_int_mk Tryz.underlying22 hk) _ _ rfl
    (fun w' k1 k2 => hK w' (Lh ⟨h0.grown k2 (Nat.le_of_lt h1) (fun k e => by injection e with e; omega), Nat.lt_of_lt_of_le h1 k2.size, _, k1, h3⟩))
def RetUses (w : World) (e : Ending) (w' : World) : Prop := e = .returned (.map (some w.heap.size)) ∧ w'.ownsMap Tryz.prog 22 RV w.heap.size 19 (.map useL) ∧ Below w.heap.size w w'
set_option maxRecDepth 100000 in
set_option maxHeartbeats 8000000 in
theorem uses_any (w : World) : Calls Tryz.prog 33 #[] w (RetUses w) := by
  have hmk := @run_makeMap Tryz.prog
  have U : Um w (w.alloc (.map #[] 0)) 0 [(1, 73), (3, 73), (2, 74), (4, 74), (5, 77), (6, 78), (7, 79), (8, 80), (9, 81), (10, 82),
    (11, 75), (12, 75), (13, 75), (14, 75), (15, 83), (16, 84), (17, 85), (18, 76), (19, 76)] :=
    Lh ⟨(Below.refl _ _).alloc (Nat.le_refl _) _, by simp, .map [], World.ownsMap_made w Tryz.prog 22 RV, ins_useO⟩
  go_enter Tryz.func33, Tryz.ntmps33
  go_wp2_with (refine wpl_insert U rfl _ _ _ rfl (by decide) rfl rfl rfl (by decide) ?_; clear U; intro w2 U)
  go_ret
  obtain ⟨h0, h1, D, h2, h3⟩ := U.out
  refine ⟨rfl, ?_, h0⟩
  rw [← h3]
  exact h2
end Go.Proofs.YtlnneacgllhdhaaGreatDoor
end
section
namespace Go.Proofs.YtlnneacgllhdhaaGreatDoor
open Go.RowKit OctMath
set_option linter.unusedVariables false
set_option linter.unusedSimpArgs false
def pingCs (t c : Int) : Array Value :=
  #[.int .i64 18, .int .i64 1, .int .i64 2, .int .u64 t, .int .u64 0, .int .u64 0, .int .u64 0, .int .u64 c, .bool false, .bool false, .slice none 0 0, .slice none 0 0, .slice none 0 0, .int .u64 0, .int .i64 0, .int .u64 0, .int .i64 0, .int .i64 0, .int .i64 0, .int .u32 0, .slice none 0 0, .int .u64 0, .int .u64 0, .int .i64 0, .string ⟨#[]⟩, .int .i64 0, .slice none 0 0]
set_option maxRecDepth 100000 in
set_option maxHeartbeats 8000000 in
theorem use_ping (g : Nat) (t c : Int) (w : World) (hB : Hid (Blk w g 38 (pingCs t c))) : Calls Tryz.prog 76 #[.pointer (some ⟨g, 0, none⟩)] w fun e w' => e = .returned (.tuple #[]) ∧ w' = w.setCell ⟨g, 7, none⟩ (.int .u64 0) := by
  have c7 : w.cell? ⟨g, 7, none⟩ = some (.int .u64 c) := hB.out.cell 7
  have f7 := hB.out.frozen 7
  go_enter Tryz.func76, Tryz.ntmps76
  go_wp2
  go_end0
  exact ⟨rfl, rfl⟩
theorem zeroUse (w : World) : (zeroValue 89).run Tryz.prog w = .ok .nilFunc w := by kernel_rfl
theorem look_ping : (DataW.map useL).atKey (.int .i64 18) (.held .nilFunc) = .held (fnv 76) := by kernel_rfl
theorem has_ping : Go.Maps.has (DataW.map useL) (.int .i64 18) = true := by kernel_rfl
def plainCs (t : Int) : Array Value := #[.int .u64 t, .int .u64 0, .int .u64 0, .int .u64 0, .int .u64 0, .int .u64 0, .int .u64 0, .bool false, .bool false, .int .u64 0, .int .i64 0, .int .u64 0, .int .i64 0, .int .i64 0, .int .i64 0, .int .u32 0, .int .i64 0, .string ⟨#[]⟩, .int .i64 0, .int .i64 0, .int .i64 0, .int .i64 0, .int .i64 0, .int .i64 0]
theorem sizePl : (Tryz.prog.info? 96).map (·.size) = some 24 := by kernel_rfl
theorem wpl_bin {P : Program} {ops : Array Oper} {rest : List Oper} {op : Oper} {a : Act} {w : World} {Q : Exit → Act → World → Prop} (hgd : op.guard = none) (b : BinOp) (t t2 : TypeId) (x y : Operand) (ho : op.op = .binOp b t x y t2) (v : Value)
    (hr : (do eqGuard b t x y (a.eval x) (a.eval y); binOp b t (a.eval x) (a.eval y)).run P w = .ok v w) (h : wpList P ops Q rest (a.put op.dst v) w) : wpList P ops Q (op :: rest) a w := by
  refine wpList_plain hgd fun K hK => ?_
  unfold Oper.wp
  simp only [execOp, ho, Sem.run_bind, Result.andThen] at hr ⊢
  simp [hr, Result.andThen]
  exact hK _ _ h
theorem neq_plain0 (x y : Operand) (w : World) : (do eqGuard .neq 96 x y (.agg (plainCs 0)) (.agg (plainCs 0)); binOp .neq 96 (.agg (plainCs 0)) (.agg (plainCs 0))).run Tryz.prog w = .ok (.bool false) w := by kernel_rfl
theorem neq_plain1 (x y : Operand) (w : World) : (do eqGuard .neq 96 x y (.agg (plainCs 1)) (.agg (plainCs 0)); binOp .neq 96 (.agg (plainCs 1)) (.agg (plainCs 0))).run Tryz.prog w = .ok (.bool true) w := by kernel_rfl
set_option maxRecDepth 100000 in
theorem look_use {w : World} {b : Nat} (hm : w.ownsMap Tryz.prog 22 RV b 19 (.map useL)) (k : Int) (hk : (Lit.int .i64 k).wf = true) (f : Nat) (h1 : (DataW.map useL).atKey (.int .i64 k) (.held .nilFunc) = .held (fnv f)) (h2 : Go.Maps.has (DataW.map useL) (.int .i64 k) = true) :
    (Instr.lookup 91 (.map (some b)) (.int .i64 k) true).run Tryz.prog w = .ok (.tuple #[.func (.func f) #[] #[], .bool true]) w := by
  generalize useL = L at *
  obtain ⟨v, ps, hrun, hv⟩ := hm.look_ok lawKind Tryz.underlying91 (zeroUse w) (zd := .held .nilFunc) (zp := []) rfl (Go.Maps.keyOf_int_mk Tryz.underlying22 hk)
  rw [h1] at hv
  rw [h2] at hrun
  injection hv with hv
  injection hv with hv _
  injection hv with hv
  rw [hrun, hv]
  rfl
set_option maxRecDepth 100000 in
set_option maxHeartbeats 8000000 in
theorem check_ping0 (w : World) : Calls Tryz.prog 11 #[.agg (pingCs 0 3)] w fun e w' => e = .returned (.int .i64 0) ∧ Below w.heap.size w w' := by
  go_enter Tryz.func11, Tryz.ntmps11
  go_upto_region 1 with fail
  refine wp_region_late (S0 := fun w' => Hid (Blk w' w.heap.size 38 (pingCs 0 3))) (S := fun w' => Hid (Blk w' w.heap.size 38 (pingCs 0 3))) 8 9 (by kernel_rfl) rfl ⟨Lh (Blk.new w _ _), Lh (Blk.new w _ _)⟩ (fun wd hwd hH => ?_)
  have HB := Lh (show Below w.heap.size w wd from by rw [hwd]; exact ((Below.refl _ _).alloc (Nat.le_refl _) _).drew)
  have HG := Lh (show w.heap.size < wd.heap.size from by rw [hwd]; simp)
  clear hwd
  refine wpAnyT_stay 1 (v := ?_) rfl (by kernel_rfl) (fun _ _ _ h => h) (Or.inl ⟨by rfl, ?_⟩) ⟨hH.1, fun _ => hH.2⟩ ?_
  rotate_left
  · (intro wx hx; clear hx; go_simp <;> with_reducible rfl)
  try simp only [Act.put, pA9, pZ9, pS9]
  refine wpAnyT_stay 2 (v := ?_) rfl (by kernel_rfl) (fun _ _ _ h => h) (Or.inl ⟨by rfl, ?_⟩) ⟨hH.1, fun _ => hH.2⟩ ?_
  rotate_left
  · (intro wx hx; have c0 : wx.cell? ⟨w.heap.size, 0, none⟩ = some (.int .i64 18) := hx.out.cell 0; clear hx; go_simp <;> with_reducible rfl)
  try simp only [Act.put, pA9, pZ9, pS9]
  refine wpAnyT_one 0 rfl (by kernel_rfl) (fun K hQ => ?_)
  rw [if_pos (by rfl)]
  go_simp
  go_at_call 33
  refine (uses_any wd).mono ?_
  rintro ev w2 ⟨rfl, hm, hb⟩
  have HM := Lh hm
  have HB2 := Lh (HB.out.trans (hb.mono (Nat.le_of_lt HG.out)))
  have HK := Lh (hH.1.out.below hb HG.out)
  refine hQ.out _ _ ⟨HK, HK⟩ (fun hH1 => ?_)
  clear hQ K hb hm
  try simp only [Act.put, pA9, pZ9, pS9]
  refine wpAnyT_one 3 rfl (by kernel_rfl) (fun K hQ => ?_)
  rw [if_pos (by rfl)]
  have hl := look_use HM.out 18 rfl _ look_ping has_ping
  go_simp
  clear hl
  refine hQ.out _ _ ⟨HK, HK⟩ (fun hH2 => ?_)
  clear hQ K
  try simp only [Act.put, pA9, pZ9, pS9]
  refine wpAnyT_one 4 rfl (by kernel_rfl) (fun K hQ => ?_)
  rw [if_pos (by rfl)]
  go_simp
  refine hQ.out _ _ ⟨HK, HK⟩ (fun hH2 => ?_)
  clear hQ K
  try simp only [Act.put, pA9, pZ9, pS9]
  refine wpAnyT_stay 5 (v := ?_) rfl (by kernel_rfl) (fun _ _ _ h => h) (Or.inl ⟨by rfl, ?_⟩) ⟨hH2.1, fun _ => hH2.2⟩ ?_
  rotate_left
  · (intro wx hx; clear hx; go_simp <;> with_reducible rfl)
  try simp only [Act.put, pA9, pZ9, pS9]
  refine wpAnyT_stay 6 (v := ?_) rfl (by kernel_rfl) (fun _ _ _ h => h) (Or.inl ⟨by rfl, ?_⟩) ⟨hH2.1, fun _ => hH2.2⟩ ?_
  rotate_left
  · (intro wx hx; clear hx; go_simp <;> with_reducible rfl)
  try simp only [Act.put, pA9, pZ9, pS9]
  refine wpAnyT_one 7 rfl (by kernel_rfl) (fun K hQ => ?_)
  rw [if_pos (by rfl)]
  go_simp
  refine hQ.out _ _ ⟨HK, HK⟩ (fun hH2 => ?_)
  clear hQ K
  try simp only [Act.put, pA9, pZ9, pS9]
  refine wpAnyT_last 8 rfl (by kernel_rfl) (by decide) (fun K hQ => ?_)
  rw [if_pos (by rfl)]
  go_simp
  refine hQ.out _ _ HK (fun hH2 => ?_)
  clear hQ K
  try simp only [Act.put, pA9, pZ9, pS9]
  refine wpAnyT_done (by kernel_rfl) ?_ _
  clear hH hH1 hH2
  go_upto_region 6 with (first
                         | (refine (use_ping w.heap.size 0 3 w2 HK).mono ?_; rintro ev w3 ⟨rfl, hw⟩
                            have HB3 := Lh (HB2.out.trans ((Only.set_ w2 w.heap.size 7 (.int .u64 0)).below (Nat.le_refl _)))
                            have HK3 : Blk (w2.setCell ⟨w.heap.size, 7, none⟩ (.int .u64 0)) w.heap.size 38 (pingCs 0 0) := HK.out.set_ 7 (.int .u64 0)
                            rw [← hw] at HB3 HK3
                            clear hw HK hH2
                            have c3 : w3.cell? ⟨w.heap.size, 3, none⟩ = some (.int .u64 0) := HK3.cell 3
                            have c4 : w3.cell? ⟨w.heap.size, 4, none⟩ = some (.int .u64 0) := HK3.cell 4
                            have c5 : w3.cell? ⟨w.heap.size, 5, none⟩ = some (.int .u64 0) := HK3.cell 5
                            have c6 : w3.cell? ⟨w.heap.size, 6, none⟩ = some (.int .u64 0) := HK3.cell 6
                            have c7 : w3.cell? ⟨w.heap.size, 7, none⟩ = some (.int .u64 0) := HK3.cell 7
                            have c8 : w3.cell? ⟨w.heap.size, 8, none⟩ = some (.bool false) := HK3.cell 8
                            have c9 : w3.cell? ⟨w.heap.size, 9, none⟩ = some (.bool false) := HK3.cell 9
                            have c10 : w3.cell? ⟨w.heap.size, 10, none⟩ = some (.slice none 0 0) := HK3.cell 10
                            have c11 : w3.cell? ⟨w.heap.size, 11, none⟩ = some (.slice none 0 0) := HK3.cell 11
                            have c12 : w3.cell? ⟨w.heap.size, 12, none⟩ = some (.slice none 0 0) := HK3.cell 12
                            have c13 : w3.cell? ⟨w.heap.size, 13, none⟩ = some (.int .u64 0) := HK3.cell 13
                            have c14 : w3.cell? ⟨w.heap.size, 14, none⟩ = some (.int .i64 0) := HK3.cell 14
                            have c15 : w3.cell? ⟨w.heap.size, 15, none⟩ = some (.int .u64 0) := HK3.cell 15
                            have c16 : w3.cell? ⟨w.heap.size, 16, none⟩ = some (.int .i64 0) := HK3.cell 16
                            have c17 : w3.cell? ⟨w.heap.size, 17, none⟩ = some (.int .i64 0) := HK3.cell 17
                            have c18 : w3.cell? ⟨w.heap.size, 18, none⟩ = some (.int .i64 0) := HK3.cell 18
                            have c19 : w3.cell? ⟨w.heap.size, 19, none⟩ = some (.int .u32 0) := HK3.cell 19
                            have c20 : w3.cell? ⟨w.heap.size, 20, none⟩ = some (.slice none 0 0) := HK3.cell 20
                            have c21 : w3.cell? ⟨w.heap.size, 21, none⟩ = some (.int .u64 0) := HK3.cell 21
                            have c22 : w3.cell? ⟨w.heap.size, 22, none⟩ = some (.int .u64 0) := HK3.cell 22
                            have c23 : w3.cell? ⟨w.heap.size, 23, none⟩ = some (.int .i64 0) := HK3.cell 23
                            have c24 : w3.cell? ⟨w.heap.size, 24, none⟩ = some (.string ⟨#[]⟩) := HK3.cell 24
                            have c25 : w3.cell? ⟨w.heap.size, 25, none⟩ = some (.int .i64 0) := HK3.cell 25
                            have c26 : w3.cell? ⟨w.heap.size, 26, none⟩ = some (.slice none 0 0) := HK3.cell 26
                            clear HK3)
                         | (refine wpl_store_blk rfl 96 _ _ rfl w3.heap.size 96 (plainCs 0) (plainCs 0) rfl rfl (Blk.new w3 _ _) rfl sizePl rfl ?_; intro w4 HB4 HO4))
  clear c3 c4 c5 c6 c7 c8 c9 c10 c11 c12 c13 c14 c15 c16 c17 c18 c19 c20 c21 c22 c23 c24 c25 c26 hH2
  go_wp2_with (first
               | (refine wpl_load_blk rfl 96 (.tmp 5) rfl w3.heap.size _ (plainCs 0) _ rfl HB4.out Tryz.underlying96 rfl sizePl ?_)
               | (refine wpl_bin rfl .neq 96 _ (.tmp 62) (.tmp 63) rfl (.bool false) (neq_plain0 _ _ _) ?_))
  go_ret
  exact ⟨rfl, (HB3.out.alloc HB3.out.size _).trans (HO4.out.below HB3.out.size)⟩
set_option maxRecDepth 100000 in
set_option maxHeartbeats 8000000 in
theorem check_ping1 (w : World) : Calls Tryz.prog 11 #[.agg (pingCs 1 3)] w fun e w' => e = .returned (.int .i64 2) ∧ Below w.heap.size w w' := by
  go_enter Tryz.func11, Tryz.ntmps11
  go_upto_region 1 with fail
  refine wp_region_late (S0 := fun w' => Hid (Blk w' w.heap.size 38 (pingCs 1 3))) (S := fun w' => Hid (Blk w' w.heap.size 38 (pingCs 1 3))) 8 9 (by kernel_rfl) rfl ⟨Lh (Blk.new w _ _), Lh (Blk.new w _ _)⟩ (fun wd hwd hH => ?_)
  have HB := Lh (show Below w.heap.size w wd from by rw [hwd]; exact ((Below.refl _ _).alloc (Nat.le_refl _) _).drew)
  have HG := Lh (show w.heap.size < wd.heap.size from by rw [hwd]; simp)
  clear hwd
  refine wpAnyT_stay 1 (v := ?_) rfl (by kernel_rfl) (fun _ _ _ h => h) (Or.inl ⟨by rfl, ?_⟩) ⟨hH.1, fun _ => hH.2⟩ ?_
  rotate_left
  · (intro wx hx; clear hx; go_simp <;> with_reducible rfl)
  try simp only [Act.put, pA9, pZ9, pS9]
  refine wpAnyT_stay 2 (v := ?_) rfl (by kernel_rfl) (fun _ _ _ h => h) (Or.inl ⟨by rfl, ?_⟩) ⟨hH.1, fun _ => hH.2⟩ ?_
  rotate_left
  · (intro wx hx; have c0 : wx.cell? ⟨w.heap.size, 0, none⟩ = some (.int .i64 18) := hx.out.cell 0; clear hx; go_simp <;> with_reducible rfl)
  try simp only [Act.put, pA9, pZ9, pS9]
  refine wpAnyT_one 0 rfl (by kernel_rfl) (fun K hQ => ?_)
  rw [if_pos (by rfl)]
  go_simp
  go_at_call 33
  refine (uses_any wd).mono ?_
  rintro ev w2 ⟨rfl, hm, hb⟩
  have HM := Lh hm
  have HB2 := Lh (HB.out.trans (hb.mono (Nat.le_of_lt HG.out)))
  have HK := Lh (hH.1.out.below hb HG.out)
  refine hQ.out _ _ ⟨HK, HK⟩ (fun hH1 => ?_)
  clear hQ K hb hm
  try simp only [Act.put, pA9, pZ9, pS9]
  refine wpAnyT_one 3 rfl (by kernel_rfl) (fun K hQ => ?_)
  rw [if_pos (by rfl)]
  have hl := look_use HM.out 18 rfl _ look_ping has_ping
  go_simp
  clear hl
  refine hQ.out _ _ ⟨HK, HK⟩ (fun hH2 => ?_)
  clear hQ K
  try simp only [Act.put, pA9, pZ9, pS9]
  refine wpAnyT_one 4 rfl (by kernel_rfl) (fun K hQ => ?_)
  rw [if_pos (by rfl)]
  go_simp
  refine hQ.out _ _ ⟨HK, HK⟩ (fun hH2 => ?_)
  clear hQ K
  try simp only [Act.put, pA9, pZ9, pS9]
  refine wpAnyT_stay 5 (v := ?_) rfl (by kernel_rfl) (fun _ _ _ h => h) (Or.inl ⟨by rfl, ?_⟩) ⟨hH2.1, fun _ => hH2.2⟩ ?_
  rotate_left
  · (intro wx hx; clear hx; go_simp <;> with_reducible rfl)
  try simp only [Act.put, pA9, pZ9, pS9]
  refine wpAnyT_stay 6 (v := ?_) rfl (by kernel_rfl) (fun _ _ _ h => h) (Or.inl ⟨by rfl, ?_⟩) ⟨hH2.1, fun _ => hH2.2⟩ ?_
  rotate_left
  · (intro wx hx; clear hx; go_simp <;> with_reducible rfl)
  try simp only [Act.put, pA9, pZ9, pS9]
  refine wpAnyT_one 7 rfl (by kernel_rfl) (fun K hQ => ?_)
  rw [if_pos (by rfl)]
  go_simp
  refine hQ.out _ _ ⟨HK, HK⟩ (fun hH2 => ?_)
  clear hQ K
  try simp only [Act.put, pA9, pZ9, pS9]
  refine wpAnyT_last 8 rfl (by kernel_rfl) (by decide) (fun K hQ => ?_)
  rw [if_pos (by rfl)]
  go_simp
  refine hQ.out _ _ HK (fun hH2 => ?_)
  clear hQ K
  try simp only [Act.put, pA9, pZ9, pS9]
  refine wpAnyT_done (by kernel_rfl) ?_ _
  clear hH hH1 hH2
  go_upto_region 6 with (first
                         | (refine (use_ping w.heap.size 1 3 w2 HK).mono ?_; rintro ev w3 ⟨rfl, hw⟩
                            have HB3 := Lh (HB2.out.trans ((Only.set_ w2 w.heap.size 7 (.int .u64 0)).below (Nat.le_refl _)))
                            have HK3 : Blk (w2.setCell ⟨w.heap.size, 7, none⟩ (.int .u64 0)) w.heap.size 38 (pingCs 1 0) := HK.out.set_ 7 (.int .u64 0)
                            rw [← hw] at HB3 HK3
                            clear hw HK hH2
                            have c3 : w3.cell? ⟨w.heap.size, 3, none⟩ = some (.int .u64 1) := HK3.cell 3
                            have c4 : w3.cell? ⟨w.heap.size, 4, none⟩ = some (.int .u64 0) := HK3.cell 4
                            have c5 : w3.cell? ⟨w.heap.size, 5, none⟩ = some (.int .u64 0) := HK3.cell 5
                            have c6 : w3.cell? ⟨w.heap.size, 6, none⟩ = some (.int .u64 0) := HK3.cell 6
                            have c7 : w3.cell? ⟨w.heap.size, 7, none⟩ = some (.int .u64 0) := HK3.cell 7
                            have c8 : w3.cell? ⟨w.heap.size, 8, none⟩ = some (.bool false) := HK3.cell 8
                            have c9 : w3.cell? ⟨w.heap.size, 9, none⟩ = some (.bool false) := HK3.cell 9
                            have c10 : w3.cell? ⟨w.heap.size, 10, none⟩ = some (.slice none 0 0) := HK3.cell 10
                            have c11 : w3.cell? ⟨w.heap.size, 11, none⟩ = some (.slice none 0 0) := HK3.cell 11
                            have c12 : w3.cell? ⟨w.heap.size, 12, none⟩ = some (.slice none 0 0) := HK3.cell 12
                            have c13 : w3.cell? ⟨w.heap.size, 13, none⟩ = some (.int .u64 0) := HK3.cell 13
                            have c14 : w3.cell? ⟨w.heap.size, 14, none⟩ = some (.int .i64 0) := HK3.cell 14
                            have c15 : w3.cell? ⟨w.heap.size, 15, none⟩ = some (.int .u64 0) := HK3.cell 15
                            have c16 : w3.cell? ⟨w.heap.size, 16, none⟩ = some (.int .i64 0) := HK3.cell 16
                            have c17 : w3.cell? ⟨w.heap.size, 17, none⟩ = some (.int .i64 0) := HK3.cell 17
                            have c18 : w3.cell? ⟨w.heap.size, 18, none⟩ = some (.int .i64 0) := HK3.cell 18
                            have c19 : w3.cell? ⟨w.heap.size, 19, none⟩ = some (.int .u32 0) := HK3.cell 19
                            have c20 : w3.cell? ⟨w.heap.size, 20, none⟩ = some (.slice none 0 0) := HK3.cell 20
                            have c21 : w3.cell? ⟨w.heap.size, 21, none⟩ = some (.int .u64 0) := HK3.cell 21
                            have c22 : w3.cell? ⟨w.heap.size, 22, none⟩ = some (.int .u64 0) := HK3.cell 22
                            have c23 : w3.cell? ⟨w.heap.size, 23, none⟩ = some (.int .i64 0) := HK3.cell 23
                            have c24 : w3.cell? ⟨w.heap.size, 24, none⟩ = some (.string ⟨#[]⟩) := HK3.cell 24
                            have c25 : w3.cell? ⟨w.heap.size, 25, none⟩ = some (.int .i64 0) := HK3.cell 25
                            have c26 : w3.cell? ⟨w.heap.size, 26, none⟩ = some (.slice none 0 0) := HK3.cell 26
                            clear HK3)
                         | (refine wpl_store_blk rfl 96 _ _ rfl w3.heap.size 96 (plainCs 0) (plainCs 1) rfl rfl (Blk.new w3 _ _) rfl sizePl rfl ?_; intro w4 HB4 HO4))
  clear c3 c4 c5 c6 c7 c8 c9 c10 c11 c12 c13 c14 c15 c16 c17 c18 c19 c20 c21 c22 c23 c24 c25 c26 hH2
  go_wp2_with (first
               | (refine wpl_load_blk rfl 96 (.tmp 5) rfl w3.heap.size _ (plainCs 1) _ rfl HB4.out Tryz.underlying96 rfl sizePl ?_)
               | (refine wpl_bin rfl .neq 96 _ (.tmp 62) (.tmp 63) rfl (.bool true) (neq_plain1 _ _ _) ?_))
  go_ret
  exact ⟨rfl, (HB3.out.alloc HB3.out.size _).trans (HO4.out.below HB3.out.size)⟩
end Go.Proofs.YtlnneacgllhdhaaGreatDoor
end
section
namespace Go.Proofs.YtlnneacgllhdhaaGreatDoor
open Go.RowKit OctMath
set_option linter.unusedVariables false
set_option linter.unusedSimpArgs false
theorem kl_i {P : Program} {d : Nat} {t : TypeId} {q : IntKind} {n : Int} (hu : P.underlying t = some (.int q)) (h : (Lit.int q n).wf = true) : P.keyLits (d + 1) t [.int q n] = some [.int q n] := by
  unfold Program.keyLits
  rw [hu]
  simp [h]
theorem kl_b {P : Program} {d : Nat} {t : TypeId} {b : Bool} (hu : P.underlying t = some .bool) : P.keyLits (d + 1) t [.bool b] = some [.bool b] := by
  unfold Program.keyLits
  rw [hu]
theorem kl_s {P : Program} {d : Nat} {t : TypeId} {s : ByteArray} (hu : P.underlying t = some .string) (h : s.size ≤ maxLen) : P.keyLits (d + 1) t [.string s] = some [.string s.data.toList] := by
  unfold Program.keyLits
  rw [hu]
  simp [h]
theorem kl_struct {P : Program} {d : Nat} {t : TypeId} {fs : Array Field} {cs : List Value} {ls : List (List Lit)} (hu : P.underlying t = some (.struct fs)) (hc : cs.length = P.cellsOf t) (hn : fs.all (·.name != "_") = true)
    (hm : fs.toList.mapM (fun f => P.keyLits d f.type ((cs.drop f.offset).take (P.cellsOf f.type))) = some ls) : P.keyLits (d + 1) t cs = some ls.flatten := by
  unfold Program.keyLits
  rw [hu]
  simp only []
  rw [if_pos ⟨hc, hn⟩, hm]
  rfl
theorem kl_array {P : Program} {d n : Nat} {t e : TypeId} {cs : List Value} {ls : List (List Lit)} (hu : P.underlying t = some (.array n e)) (hc : cs.length = P.cellsOf t)
    (hm : (List.range n).mapM (fun i => P.keyLits d e ((cs.drop (i * P.cellsOf e)).take (P.cellsOf e))) = some ls) : P.keyLits (d + 1) t cs = some ls.flatten := by
  unfold Program.keyLits
  rw [hu]
  simp only []
  rw [if_pos hc, hm]
  rfl
theorem wf_u64 {n : Nat} (h : n < 18446744073709551616) : (Lit.int .u64 (n : Int)).wf = true := by simp [Lit.wf, IntKind.min, IntKind.max, IntKind.signed, IntKind.bits]; omega
theorem wf_u32 {n : Nat} (h : n < 4294967296) : (Lit.int .u32 (n : Int)).wf = true := by simp [Lit.wf, IntKind.min, IntKind.max, IntKind.signed, IntKind.bits]; omega
theorem wf_i64 {n : Int} (h : -9223372036854775808 ≤ n ∧ n ≤ 9223372036854775807) : (Lit.int .i64 n).wf = true := by simp [Lit.wf, IntKind.min, IntKind.max, IntKind.signed, IntKind.bits]; omega
theorem mapM_step {α β : Type} {f : α → Option β} {a : α} {l : List α} {b : β} {bs : List β} (h1 : f a = some b) (h2 : l.mapM f = some bs) : (a :: l).mapM f = some (b :: bs) := by
  rw [List.mapM_cons, h1, h2]; rfl
def plainL (x : MsgT) (ne : Nat) : List Value := [.int .u64 (x.term : Int), .int .u64 (x.index : Int), .int .u64 (x.logTerm : Int), .int .u64 (x.commit : Int), .int .u64 (x.ctx : Int), .int .u64 (x.client : Int), .int .u64 (x.seq : Int), .bool x.okf, .bool x.force, .int .u64 (x.head.id.ver : Int), .int .i64 x.head.id.idx, .int .u64 (x.head.id.ep : Int), .int .i64 x.head.k, .int .i64 x.head.n, .int .i64 x.head.size, .int .u32 (x.head.sum : Int), .int .i64 x.op, .string (strOf x.key), .int .i64 x.code, .int .i64 (ne : Int), .int .i64 (x.vot.length : Int), .int .i64 (x.lea.length : Int), .int .i64 (x.data.length : Int), .int .i64 (x.names.length : Int)]
def litsL (x : MsgT) (ne : Nat) : List Lit := [.int .u64 (x.term : Int), .int .u64 (x.index : Int), .int .u64 (x.logTerm : Int), .int .u64 (x.commit : Int), .int .u64 (x.ctx : Int), .int .u64 (x.client : Int), .int .u64 (x.seq : Int), .bool x.okf, .bool x.force, .int .u64 (x.head.id.ver : Int), .int .i64 x.head.id.idx, .int .u64 (x.head.id.ep : Int), .int .i64 x.head.k, .int .i64 x.head.n, .int .i64 x.head.size, .int .u32 (x.head.sum : Int), .int .i64 x.op, .string (strOf x.key).data.toList, .int .i64 x.code, .int .i64 (ne : Int), .int .i64 (x.vot.length : Int), .int .i64 (x.lea.length : Int), .int .i64 (x.data.length : Int), .int .i64 (x.names.length : Int)]
def zeroL : List Value := [.int .u64 0, .int .u64 0, .int .u64 0, .int .u64 0, .int .u64 0, .int .u64 0, .int .u64 0, .bool false, .bool false, .int .u64 0, .int .i64 0, .int .u64 0, .int .i64 0, .int .i64 0, .int .i64 0, .int .u32 0, .int .i64 0, .string ⟨#[]⟩, .int .i64 0, .int .i64 0, .int .i64 0, .int .i64 0, .int .i64 0, .int .i64 0]
def zlitL : List Lit := [.int .u64 0, .int .u64 0, .int .u64 0, .int .u64 0, .int .u64 0, .int .u64 0, .int .u64 0, .bool false, .bool false, .int .u64 0, .int .i64 0, .int .u64 0, .int .i64 0, .int .i64 0, .int .i64 0, .int .u32 0, .int .i64 0, .string [], .int .i64 0, .int .i64 0, .int .i64 0, .int .i64 0, .int .i64 0, .int .i64 0]
set_option maxRecDepth 100000 in
set_option maxHeartbeats 4000000 in
theorem plain_lits (x : MsgT) (ne : Nat) (hx : MsgOk x) (hne : ne ≤ 1048576) : Tryz.prog.keyLits 6 96 (plainL x ne) = some (litsL x ne) := by
  have h0 : Tryz.prog.keyLits 5 94 [.int .u64 (x.term : Int), .int .u64 (x.index : Int), .int .u64 (x.logTerm : Int), .int .u64 (x.commit : Int), .int .u64 (x.ctx : Int), .int .u64 (x.client : Int), .int .u64 (x.seq : Int)] = some [.int .u64 (x.term : Int), .int .u64 (x.index : Int), .int .u64 (x.logTerm : Int), .int .u64 (x.commit : Int), .int .u64 (x.ctx : Int), .int .u64 (x.client : Int), .int .u64 (x.seq : Int)] := by
    refine kl_array (ls := [[.int .u64 (x.term : Int)], [.int .u64 (x.index : Int)], [.int .u64 (x.logTerm : Int)], [.int .u64 (x.commit : Int)], [.int .u64 (x.ctx : Int)], [.int .u64 (x.client : Int)], [.int .u64 (x.seq : Int)]]) Tryz.underlying94 (by kernel_rfl) ?_
    exact (mapM_step (kl_i Tryz.underlying23 (wf_u64 hx.term)) (mapM_step (kl_i Tryz.underlying23 (wf_u64 hx.index)) (mapM_step (kl_i Tryz.underlying23 (wf_u64 hx.logTerm)) (mapM_step (kl_i Tryz.underlying23 (wf_u64 hx.commit)) (mapM_step (kl_i Tryz.underlying23 (wf_u64 hx.ctx)) (mapM_step (kl_i Tryz.underlying23 (wf_u64 hx.client)) (mapM_step (kl_i Tryz.underlying23 (wf_u64 hx.seq)) rfl)))))))
  have h1 : Tryz.prog.keyLits 4 29 [.int .u64 (x.head.id.ver : Int), .int .i64 x.head.id.idx, .int .u64 (x.head.id.ep : Int)] = some [.int .u64 (x.head.id.ver : Int), .int .i64 x.head.id.idx, .int .u64 (x.head.id.ep : Int)] := by
    refine kl_struct (ls := [[.int .u64 (x.head.id.ver : Int)], [.int .i64 x.head.id.idx], [.int .u64 (x.head.id.ep : Int)]]) Tryz.underlying29 (by kernel_rfl) (by kernel_rfl) ?_
    exact (mapM_step (kl_i Tryz.underlying23 (wf_u64 hx.head.ver)) (mapM_step (kl_i Tryz.underlying3 (wf_i64 hx.head.idx)) (mapM_step (kl_i Tryz.underlying23 (wf_u64 hx.head.ep)) rfl)))
  have h2 : Tryz.prog.keyLits 5 32 [.int .u64 (x.head.id.ver : Int), .int .i64 x.head.id.idx, .int .u64 (x.head.id.ep : Int), .int .i64 x.head.k, .int .i64 x.head.n, .int .i64 x.head.size, .int .u32 (x.head.sum : Int)] = some [.int .u64 (x.head.id.ver : Int), .int .i64 x.head.id.idx, .int .u64 (x.head.id.ep : Int), .int .i64 x.head.k, .int .i64 x.head.n, .int .i64 x.head.size, .int .u32 (x.head.sum : Int)] := by
    refine kl_struct (ls := [[.int .u64 (x.head.id.ver : Int), .int .i64 x.head.id.idx, .int .u64 (x.head.id.ep : Int)], [.int .i64 x.head.k], [.int .i64 x.head.n], [.int .i64 x.head.size], [.int .u32 (x.head.sum : Int)]]) Tryz.underlying32 (by kernel_rfl) (by kernel_rfl) ?_
    exact (mapM_step h1 (mapM_step (kl_i Tryz.underlying3 (wf_i64 hx.head.k)) (mapM_step (kl_i Tryz.underlying3 (wf_i64 hx.head.n)) (mapM_step (kl_i Tryz.underlying3 (wf_i64 hx.head.size)) (mapM_step (kl_i Tryz.underlying30 (wf_u32 hx.head.sum)) rfl)))))
  refine kl_struct (ls := [[.int .u64 (x.term : Int), .int .u64 (x.index : Int), .int .u64 (x.logTerm : Int), .int .u64 (x.commit : Int), .int .u64 (x.ctx : Int), .int .u64 (x.client : Int), .int .u64 (x.seq : Int)], [.bool x.okf], [.bool x.force], [.int .u64 (x.head.id.ver : Int), .int .i64 x.head.id.idx, .int .u64 (x.head.id.ep : Int), .int .i64 x.head.k, .int .i64 x.head.n, .int .i64 x.head.size, .int .u32 (x.head.sum : Int)], [.int .i64 x.op], [.string (strOf x.key).data.toList], [.int .i64 x.code], [.int .i64 (ne : Int)], [.int .i64 (x.vot.length : Int)], [.int .i64 (x.lea.length : Int)], [.int .i64 (x.data.length : Int)], [.int .i64 (x.names.length : Int)]]) Tryz.underlying96 (by kernel_rfl) (by kernel_rfl) ?_
  exact (mapM_step h0 (mapM_step (kl_b Tryz.underlying4) (mapM_step (kl_b Tryz.underlying4) (mapM_step (h2) (mapM_step (kl_i Tryz.underlying34 (wf_i64 hx.op)) (mapM_step (kl_s Tryz.underlying9 (by rw [strOf_size]; have := hx.key.2; unfold maxLen; omega)) (mapM_step (kl_i Tryz.underlying35 (wf_i64 hx.code)) (mapM_step (kl_i Tryz.underlying3 (wf_i64 (by omega))) (mapM_step (kl_i Tryz.underlying3 (wf_i64 (by have := hx.conf.1.2; omega))) (mapM_step (kl_i Tryz.underlying3 (wf_i64 (by have := hx.conf.2.2; omega))) (mapM_step (kl_i Tryz.underlying3 (wf_i64 (by have := hx.data.2; omega))) (mapM_step (kl_i Tryz.underlying3 (wf_i64 (by have := hx.names.2; omega))) rfl))))))))))))
def Bare (x : MsgT) (ne : Nat) : Prop := x.term = 0 ∧ x.index = 0 ∧ x.logTerm = 0 ∧ x.commit = 0 ∧ x.ctx = 0 ∧ x.client = 0 ∧ x.seq = 0 ∧ x.okf = false ∧ x.force = false ∧ x.head.id.ver = 0 ∧ x.head.id.idx = 0 ∧ x.head.id.ep = 0 ∧ x.head.k = 0 ∧ x.head.n = 0 ∧ x.head.size = 0 ∧ x.head.sum = 0 ∧ x.op = 0 ∧ x.key = [] ∧ x.code = 0 ∧ ne = 0 ∧ x.vot.length = 0 ∧ x.lea.length = 0 ∧ x.data.length = 0 ∧ x.names.length = 0
theorem lits_bare (x : MsgT) (ne : Nat) : litsL x ne = zlitL ↔ Bare x ne := by
  have hk : (strOf x.key).data.toList = [] ↔ x.key = [] := by
    constructor
    · intro h
      have h2 := strOf_size x.key
      have h3 : (strOf x.key).size = 0 := by show (strOf x.key).data.size = 0; rw [← Array.length_toList, h]; rfl
      exact List.eq_nil_of_length_eq_zero (by omega)
    · intro h; rw [h]; rfl
  unfold litsL zlitL Bare
  simp only [List.cons.injEq, Lit.int.injEq, Lit.bool.injEq, Lit.string.injEq, true_and, and_true, hk]
  constructor
  · rintro h; refine ⟨?_, ?_, ?_, ?_, ?_, ?_, ?_, ?_, ?_, ?_, ?_, ?_, ?_, ?_, ?_, ?_, ?_, ?_, ?_, ?_, ?_, ?_, ?_, ?_⟩ <;> first | exact_mod_cast h.1 | simp_all | omega
  · rintro h; simp_all
theorem keyT : Tryz.prog.keyTypeAt 6 96 = true := by kernel_rfl
theorem zlits : Tryz.prog.keyLits 6 96 zeroL = some zlitL := by kernel_rfl
theorem guardPl : Tryz.prog.eqGuardType Tryz.prog.depth 96 = false := by kernel_rfl
theorem neq_plain (x : MsgT) (ne : Nat) (hx : MsgOk x) (hne : ne ≤ 1048576) : ∃ r : Bool, (r = true ↔ Bare x ne) ∧ ∀ (p q : Operand) (w : World), (do eqGuard .neq 96 p q (.agg (plainL x ne).toArray) (.agg zeroL.toArray); binOp .neq 96 (.agg (plainL x ne).toArray) (.agg zeroL.toArray)).run Tryz.prog w = .ok (.bool (!r)) w := by
  have h : ∀ w : World, ∃ r : Bool, (Op.equalIn 10000 96 (.agg (plainL x ne).toArray) (.agg zeroL.toArray)).run Tryz.prog w = .ok r w ∧ (r = true ↔ Bare x ne) := fun w => by
    obtain ⟨r, h1, h2⟩ := run_equalIn_deep (P := Tryz.prog) 9994 6 96 keyT w 6 6 (.agg (plainL x ne).toArray) (.agg zeroL.toArray) (litsL x ne) zlitL (by kernel_rfl) (by kernel_rfl) (plain_lits x ne hx hne) zlits
    exact ⟨r, h1, by rw [h2]; exact lits_bare x ne⟩
  by_cases hb : Bare x ne
  · refine ⟨true, by simp [hb], fun p q w => ?_⟩
    obtain ⟨r, h1, h2⟩ := h w
    obtain rfl : r = true := h2.2 hb
    rw [Sem.run_bind, run_eqGuard_agg w _ _ _ _ _ _ guardPl, Result.andThen_ok, run_neq_struct, h1]
    rfl
  · refine ⟨false, by simp [hb], fun p q w => ?_⟩
    obtain ⟨r, h1, h2⟩ := h w
    obtain rfl : r = false := by cases r; rfl; exact absurd (h2.1 rfl) hb
    rw [Sem.run_bind, run_eqGuard_agg w _ _ _ _ _ _ guardPl, Result.andThen_ok, run_neq_struct, h1]
    rfl
end Go.Proofs.YtlnneacgllhdhaaGreatDoor
end
