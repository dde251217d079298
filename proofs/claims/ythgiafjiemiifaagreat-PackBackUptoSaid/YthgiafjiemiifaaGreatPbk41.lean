/-
  THE PROGRAM'S READER of states, exported. (printed by gen_pameta.py). (joined out of PaG4 by shake.py)
-/
import Derived.Test.YthgiafjiemiifaaGreatPbk22
import Derived.Test.YthgiafjiemiifaaGreatPbk29
section
namespace Go.Proofs.YthgiafjiemiifaaGreat
open Go.RowKit OctMath
set_option linter.unusedVariables false
set_option linter.unusedSimpArgs false
structure ApM (y : Nat) (m : MM) : Prop where
  map : Apart y m.x.mem.length m.MA
  next : Apart y m.x.nem.length m.NA
  cut : Apart y m.x.cut.length m.CA
  objs : Apart y m.os.length m.OA
  ints : Apart y m.is.length m.IA
  sess : Apart y m.x.sess.length m.SA
  wass : Apart y m.x.wass.length m.WA
  down : Apart y m.x.down.length m.DA
  oss : ApL y (m.os.map OM.row)
  iss : ApL y (m.is.map IM.row)
theorem Lst.drew {lo size : Nat} {A : Option Addr} {c k : Nat} {xs : List Value} {w : World} (h : Lst lo size A c k xs w) : Lst lo size A c k xs w.drew := ⟨h.rd, h.lo, h.kc, h.cm⟩
theorem SubL.drew {lo : Nat} {l : List (Option Addr × Nat × List Int)} {w : World} (h : SubL lo l w) : SubL lo l w.drew := ⟨fun m hm => (h.all m hm).drew⟩
section
variable {lo lo' y : Nat} {m : MM} {w w' : World}
theorem MetIn.apart_lo (h : MetIn lo m w) (hy : y < lo) : ApM y m := ⟨h.map.apart_lo hy, h.next.apart_lo hy, h.cut.apart_lo hy, h.objs.apart_lo hy, h.ints.apart_lo hy, h.sess.apart_lo hy, h.wass.apart_lo hy, h.down.apart_lo hy, h.oss.apart_lo hy, h.iss.apart_lo hy⟩
theorem MetIn.apart_hi (h : MetIn lo m w) (hy : w.heap.size ≤ y) : ApM y m := ⟨h.map.apart_hi hy, h.next.apart_hi hy, h.cut.apart_hi hy, h.objs.apart_hi hy, h.ints.apart_hi hy, h.sess.apart_hi hy, h.wass.apart_hi hy, h.down.apart_hi hy, h.oss.apart_hi hy, h.iss.apart_hi hy⟩
theorem MetIn.mono (h : MetIn lo m w) (hl : lo' ≤ lo) : MetIn lo' m w := ⟨h.map.mono hl, h.next.mono hl, h.cut.mono hl, h.objs.mono hl, h.ints.mono hl, h.sess.mono hl, h.wass.mono hl, h.down.mono hl, h.os, h.is, h.oss.mono hl, h.iss.mono hl⟩
theorem MetIn.keep (h : MetIn lo m w) {g : Nat} (hk : Keep (Not g) w w') (hg : g < lo) : MetIn lo m w' := ⟨h.map.keep hk hg, h.next.keep hk hg, h.cut.keep hk hg, h.objs.keep hk hg, h.ints.keep hk hg, h.sess.keep hk hg, h.wass.keep hk hg, h.down.keep hk hg, h.os, h.is, h.oss.keep hk hg, h.iss.keep hk hg⟩
theorem MetIn.only (h : MetIn lo m w) (ho : Only y w w') (ha : ApM y m) : MetIn lo m w' := ⟨h.map.only ho ha.map, h.next.only ho ha.next, h.cut.only ho ha.cut, h.objs.only ho ha.objs, h.ints.only ho ha.ints, h.sess.only ho ha.sess, h.wass.only ho ha.wass, h.down.only ho ha.down, h.os, h.is, h.oss.only ho ha.oss, h.iss.only ho ha.iss⟩
theorem MetIn.drew (h : MetIn lo m w) : MetIn lo m w.drew := ⟨h.map.drew, h.next.drew, h.cut.drew, h.objs.drew, h.ints.drew, h.sess.drew, h.wass.drew, h.down.drew, h.os, h.is, h.oss.drew, h.iss.drew⟩
end
set_option maxRecDepth 100000 in
set_option maxHeartbeats 1000000 in
theorem met_returning (n x y e : Nat) (w : World) :
    CallsD Tryz.prog 53 #[.pointer (some ⟨n, 0, none⟩), .pointer (some ⟨x, 0, none⟩), .pointer (some ⟨y, 0, none⟩), .pointer (some ⟨e, 0, none⟩)] .returning w fun e u' w' => e = .returned (.tuple #[]) ∧ u' = .returning ∧ w = w' := by
  refine callsD_of_wpS Tryz.func53 rfl fun c₀ cs hu => ?_
  apply wpS_seq
  apply wpS_region
  simp [wpOpsS, go_sem, recoverD, hu, Tryz.ntmps53, Exit.thenS]
  refine wpS_of_wp ?_
  go_wp2
  cases c₀
  simp_all [bodyPostS, results, Tryz.results53]
set_option maxRecDepth 100000 in
set_option maxHeartbeats 2000000 in
theorem met_panicking (n x y e : Nat) (older : List PanicEntry) (w : World) (xs : Array Value) (hN : Hid (Blk w n 53 #[.int .i64 0, .int .i64 0, .int .i64 0, .int .u64 0, .slice none 0 0, .int .u64 0, .slice none 0 0, .slice none 0 0, .slice none 0 0, .slice none 0 0, .slice none 0 0, .slice none 0 0, .slice none 0 0, .int .u64 0])) (hX : Hid (Blk w x 53 xs)) (hxs : Hid (xs.size = 14)) (y0 e0 : Value) (hY : Hid (Blk w y 3 #[y0])) (hE : Hid (Blk w e 39 #[e0])) (hxy : x < y) (hye : y < e) :
    CallsD Tryz.prog 53 #[.pointer (some ⟨n, 0, none⟩), .pointer (some ⟨x, 0, none⟩), .pointer (some ⟨y, 0, none⟩), .pointer (some ⟨e, 0, none⟩)] (.panicking ({ v := .iface 105 (.agg #[]), recovered := false } :: older)) w fun o u' w' =>
      o = .returned (.tuple #[]) ∧ u' = .panicking ({ v := .iface 105 (.agg #[]), recovered := true } :: older) ∧ Blk w' x 53 #[.int .i64 0, .int .i64 0, .int .i64 0, .int .u64 0, .slice none 0 0, .int .u64 0, .slice none 0 0, .slice none 0 0, .slice none 0 0, .slice none 0 0, .slice none 0 0, .slice none 0 0, .slice none 0 0, .int .u64 0] ∧ Blk w' y 3 #[.int .i64 0] ∧ Blk w' e 39 #[.int .i64 50] ∧ Below x w w' := by
  have hta := bad_asserted
  refine callsD_of_wpS Tryz.func53 rfl fun c₀ cs hu => ?_
  apply wpS_seq
  apply wpS_region
  simp [wpOpsS, go_sem, recoverD, hu, Tryz.ntmps53, Exit.thenS]
  refine wpS_of_wp ?_
  have hxn := Lib.hid hxs.out
  go_wp2_with (first
    | (refine wpl_load_blk rfl 53 (.tmp 0) rfl n 53 #[.int .i64 0, .int .i64 0, .int .i64 0, .int .u64 0, .slice none 0 0, .int .u64 0, .slice none 0 0, .slice none 0 0, .slice none 0 0, .slice none 0 0, .slice none 0 0, .slice none 0 0, .slice none 0 0, .int .u64 0] _ rfl (hN.out.alloc _) Tryz.underlying53 rfl Tryz.sizeMet ?_)
    | (refine wpl_store_blk rfl 53 (.tmp 1) (.tmp 13) rfl x 53 xs #[.int .i64 0, .int .i64 0, .int .i64 0, .int .u64 0, .slice none 0 0, .int .u64 0, .slice none 0 0, .slice none 0 0, .slice none 0 0, .slice none 0 0, .slice none 0 0, .slice none 0 0, .slice none 0 0, .int .u64 0] rfl rfl (hX.out.alloc _) hxs.out Tryz.sizeMet rfl ?_; intro w1 hB hO; have hy := hO.out.blk (hY.out.alloc _) (by omega); have he := hO.out.blk (hE.out.alloc _) (by omega); have cy := hy.cell 0; have fy := hy.frozen; have ce := he.cell 0; have fe := he.frozen; have HY := Lib.hid hy; have HE := Lib.hid he; clear hy he))
  obtain ⟨wy, ewy⟩ : ∃ wy, w1.setCell ⟨y, 0, none⟩ (.int .i64 0) = wy := ⟨_, rfl⟩
  have o1 := Only.set_ w1 y 0 (.int .i64 0)
  have y1 : Blk (w1.setCell ⟨y, 0, none⟩ (.int .i64 0)) y 3 #[.int .i64 0] := HY.out.set_ 0 (.int .i64 0)
  rw [ewy] at o1 y1 ⊢
  have x1 := o1.blk hB.out (show x ≠ y by omega)
  have e1 := o1.blk HE.out (show e ≠ y by omega)
  obtain ⟨w2, ew⟩ : ∃ w2, wy.setCell ⟨e, 0, none⟩ (.int .i64 50) = w2 := ⟨_, rfl⟩
  have o2 := Only.set_ wy e 0 (.int .i64 50)
  have e2 : Blk (wy.setCell ⟨e, 0, none⟩ (.int .i64 50)) e 39 #[.int .i64 50] := e1.set_ 0 (.int .i64 50)
  rw [ew] at o2 e2
  have x2 := o2.blk x1 (show x ≠ e by omega)
  have y2 := o2.blk y1 (show y ≠ e by omega)
  have b0 : Below x w (w.alloc (.cells #[] 105)) := (Below.refl x w).alloc (Nat.le_of_lt hX.out.lt) _
  have b1 := b0.trans (hO.out.below (Nat.le_refl x))
  have b2 := b1.trans (o1.below (show x ≤ y by omega))
  have b3 := b2.trans (o2.below (show x ≤ e by omega))
  have HF := Lib.hid (And.intro x2 (And.intro y2 (And.intro e2 b3)))
  rw [ew]
  clear ew ewy o1 y1 x1 e1 o2 e2 x2 y2 b0 b1 b2 b3 hB hO HY HE cy fy ce fe hN hX hY hE
  cases c₀
  simp [bodyPostS, results, Tryz.results53]
  exact HF.out
set_option maxRecDepth 100000 in
set_option maxHeartbeats 4000000 in
theorem met_got (A : Option Addr) (n cap : Nat) (bs : List Nat) (p : Nat) (w : World) (HI : Hid (InB w A n cap bs)) (hp : p ≤ n) :
    Calls Tryz.prog 27 #[.slice A n cap, .int .i64 (p : Int), .func (.func 28) #[] #[]] w (RetG (rMet bs p) (vMet w.heap.size) (.agg #[.int .i64 0, .int .i64 0, .int .i64 0, .int .u64 0, .slice none 0 0, .int .u64 0, .slice none 0 0, .slice none 0 0, .slice none 0 0, .slice none 0 0, .slice none 0 0, .slice none 0 0, .slice none 0 0, .int .u64 0]) w) := by
  have d1 : decide ((p : Int) < 0) = false := decide_eq_false (by omega)
  have d2 : decide ((p : Int) > (n : Int)) = false := decide_eq_false (by omega)
  have d3 : decide (n < p) = false := decide_eq_false (by omega)
  have hmf : ∀ (fn : Fn) (first cap : Array Value) (w : World), (Instr.makeFunc fn first cap).run Tryz.prog w = .ok (.func fn first cap) w := fun _ _ _ _ => rfl
  go_enter_defers Tryz.func27, Tryz.ntmps27
  go_wp2_with fail
  have hs := got_start w 53 #[.int .i64 0, .int .i64 0, .int .i64 0, .int .u64 0, .slice none 0 0, .int .u64 0, .slice none 0 0, .slice none 0 0, .slice none 0 0, .slice none 0 0, .slice none 0 0, .slice none 0 0, .slice none 0 0, .int .u64 0] HI.out hp
  obtain ⟨w5, ew5⟩ : ∃ w5, ((((w.alloc (.cells #[.int .i64 0, .int .i64 0, .int .i64 0, .int .u64 0, .slice none 0 0, .int .u64 0, .slice none 0 0, .slice none 0 0, .slice none 0 0, .slice none 0 0, .slice none 0 0, .slice none 0 0, .slice none 0 0, .int .u64 0] 53)).alloc (.cells #[.int .i64 0] 3)).alloc (.cells #[.int .i64 0] 39)).alloc (.cells #[.int .i64 0, .int .i64 0, .int .i64 0, .int .u64 0, .slice none 0 0, .int .u64 0, .slice none 0 0, .slice none 0 0, .slice none 0 0, .slice none 0 0, .slice none 0 0, .slice none 0 0, .slice none 0 0, .int .u64 0] 53)).alloc (.cells #[.slice A n cap, .int .i64 (p : Int)] 107) = w5 := ⟨_, rfl⟩
  rw [ew5] at hs ⊢
  obtain ⟨hx, hy, he, hn, hg, hb⟩ := hs
  have HX := Lib.hid hx
  have HY := Lib.hid hy
  have HE := Lib.hid he
  have HN := Lib.hid hn
  have HB := Lib.hid hb
  clear hx hy he hn hb ew5 hmf
  refine (pg_meta (w.heap.size + 1 + 1 + 1 + 1) A n cap bs p _ (Lib.hid hg)).mono ?_
  have HL5 := Lib.hid hg.blk.lt
  clear hg
  cases hr : rMet bs p with
  | none =>
    rintro e w6 ⟨rfl, hk⟩
    have HX := Lib.hid (hk.notBlk HX.out (by omega))
    have HY := Lib.hid (hk.notBlk HY.out (by omega))
    have HE := Lib.hid (hk.notBlk HE.out (by omega))
    have HN := Lib.hid (hk.notBlk HN.out (by omega))
    have HB := Lib.hid (HB.out.trans (hk.toBelow (B := w.heap.size) (by have := HX.out.lt; have := HB.out.size; omega) (fun k hk => by show k ≠ _; omega)))
    clear hk
    refine leaves_cons (f := 53) (args := #[.pointer (some ⟨w.heap.size + 1 + 1 + 1, 0, none⟩), .pointer (some ⟨w.heap.size, 0, none⟩), .pointer (some ⟨w.heap.size + 1, 0, none⟩), .pointer (some ⟨w.heap.size + 1 + 1, 0, none⟩)]) (by simp) (by simp [go_sem]) ?_
    refine (met_panicking _ _ _ _ [] _ _ HN HX (Lib.hid rfl) _ _ HY HE (by omega) (by omega)).mono ?_
    rintro e u' w7 ⟨rfl, rfl, x7, y7, e7, b7⟩
    show Leaves _ _ _ _ [] .returning w7
    exact ⟨_, res_ccc Tryz.results27 rfl rfl rfl (load_blk x7 Tryz.underlying53 rfl Tryz.sizeMet) (load_int (y7.cell 0)) (load_errno (e7.cell 0)), HB.out.trans b7, rfl⟩
  | some x =>
    obtain ⟨x1, q1⟩ := x
    rintro e w6 ⟨v, rfl, ⟨M1, rfl, rfl, l1, b1⟩, hp6, hk⟩
    have HX := Lib.hid (hk.notBlk HX.out (by omega))
    have HY := Lib.hid (hk.notBlk HY.out (by omega))
    have HE := Lib.hid (hk.notBlk HE.out (by omega))
    have HB := Lib.hid (HB.out.trans (hk.toBelow (B := w.heap.size) (by have := HX.out.lt; have := HB.out.size; omega) (fun k hk => by show k ≠ _; omega)))
    have HG := Lib.hid hp6.blk
    have L1 := Lib.hid l1
    clear l1
    clear hk HN hp6
    go_wp2_with (refine wpl_store_blk rfl 53 (.tmp 6) (.tmp 27) rfl w.heap.size 53 #[.int .i64 0, .int .i64 0, .int .i64 0, .int .u64 0, .slice none 0 0, .int .u64 0, .slice none 0 0, .slice none 0 0, .slice none 0 0, .slice none 0 0, .slice none 0 0, .slice none 0 0, .slice none 0 0, .int .u64 0] _ rfl rfl HX.out rfl Tryz.sizeMet rfl ?_; intro w7 hB hO)
    have HY := Lib.hid (hO.out.blk HY.out (by omega))
    have HE := Lib.hid (hO.out.blk HE.out (by omega))
    have HG := Lib.hid (hO.out.blk HG.out (by omega))
    have HB := Lib.hid (HB.out.trans (hO.out.below (Nat.le_refl _)))
    have L1 := Lib.hid (L1.out.only hO.out (L1.out.apart_lo (by have := HL5.out; omega)))
    have cg := HG.out.cell 1
    have cg : w7.cell? ⟨w.heap.size + 1 + 1 + 1 + 1, 1, none⟩ = some (.int .i64 (q1 : Int)) := cg
    clear HG HX hO d1 d2 d3 hp
    refine wp_region_noPanic ?_
    refine wp_region_late (S0 := fun w' => Hid (Blk w' w.heap.size 53 M1.cs) ∧ w'.cell? ⟨w.heap.size + 1 + 1 + 1 + 1, 1, none⟩ = some (.int .i64 (q1 : Int))) (S := fun _ => True) 7 8 (by kernel_rfl) rfl ⟨⟨Lib.hid hB.out.drew, cg⟩, trivial⟩ (fun wd hwd hH => ?_)
    have HY := Lib.hid (show Blk wd _ _ _ from by rw [hwd]; exact HY.out.drew)
    have HE := Lib.hid (show Blk wd _ _ _ from by rw [hwd]; exact HE.out.drew)
    have HB := Lib.hid (show Below w.heap.size w wd from by rw [hwd]; exact HB.out.trans ((Below.refl _ _).drew))
    have L1 := Lib.hid (show MetIn _ M1 wd from by rw [hwd]; exact L1.out.drew)
    clear hwd hB cg
    refine wpAnyT_stay 0 rfl (by kernel_rfl) (fun _ _ _ h => h) (yields_load_blk rfl 53 (.tmp 6) rfl w.heap.size 53 M1.cs _ rfl (fun w' hw' => hw'.1.out) Tryz.underlying53 rfl Tryz.sizeMet) ⟨hH.1, fun _ => hH.2⟩ ?_
    try simp only [Act.put, List.setIfInBounds_toArray, List.set_cons_zero, List.set_cons_succ]
    refine wpAnyT_stay 1 (v := ?_) rfl (by kernel_rfl) (fun _ _ _ h => h) (Or.inl ⟨by rfl, ?_⟩) ⟨hH.1, fun _ => hH.2⟩ ?_
    rotate_left
    · (intro wx hx; obtain ⟨_, _⟩ := hx; go_simp <;> with_reducible rfl)
    try simp only [Act.put, List.setIfInBounds_toArray, List.set_cons_zero, List.set_cons_succ]
    refine wpAnyT_stay 2 (v := ?_) rfl (by kernel_rfl) (fun _ _ _ h => h) (Or.inl ⟨by rfl, ?_⟩) ⟨hH.1, fun _ => hH.2⟩ ?_
    rotate_left
    · (intro wx hx; obtain ⟨_, _⟩ := hx; go_simp <;> with_reducible rfl)
    try simp only [Act.put, List.setIfInBounds_toArray, List.set_cons_zero, List.set_cons_succ]
    refine wpAnyT_stay 3 (v := ?_) rfl (by kernel_rfl) (fun _ _ _ h => h) (Or.inl ⟨by rfl, ?_⟩) ⟨hH.1, fun _ => hH.2⟩ ?_
    rotate_left
    · (intro wx hx; obtain ⟨_, _⟩ := hx; go_simp <;> with_reducible rfl)
    try simp only [Act.put, List.setIfInBounds_toArray, List.set_cons_zero, List.set_cons_succ]
    refine wpAnyT_stay 4 (v := ?_) rfl (by kernel_rfl) (fun _ _ _ h => h) (Or.inl ⟨by rfl, ?_⟩) ⟨hH.1, fun _ => hH.2⟩ ?_
    rotate_left
    · (intro wx hx; obtain ⟨_, _⟩ := hx; go_simp <;> with_reducible rfl)
    try simp only [Act.put, List.setIfInBounds_toArray, List.set_cons_zero, List.set_cons_succ]
    refine wpAnyT_one 5 rfl (by kernel_rfl) (fun K hK => ?_)
    refine step_store_blk rfl 53 (.tmp 6) (.tmp 28) rfl w.heap.size 53 M1.cs M1.cs rfl rfl hH.1.1.out rfl Tryz.sizeMet rfl ?_
    intro w8 hB8 hO8
    have HY := Lib.hid (hO8.out.blk HY.out (by omega))
    have HE := Lib.hid (hO8.out.blk HE.out (by omega))
    have HB := Lib.hid (HB.out.trans (hO8.out.below (Nat.le_refl _)))
    have L1 := Lib.hid (L1.out.only hO8.out (L1.out.apart_lo (by have := HL5.out; omega)))
    have cg8 := (hO8.out.cell (p := ⟨w.heap.size + 1 + 1 + 1 + 1, 1, none⟩) (show w.heap.size + 1 + 1 + 1 + 1 ≠ w.heap.size by omega)).trans hH.1.2
    refine hK.out _ _ ⟨⟨hB8, cg8⟩, trivial⟩ (fun hH8 => ?_)
    clear hK K
    try simp only [Act.put, List.setIfInBounds_toArray, List.set_cons_zero, List.set_cons_succ]
    have cy := HY.out.cell 0
    have fy := HY.out.frozen
    have hY9 : Blk (w8.setCell ⟨w.heap.size + 1, 0, none⟩ (.int .i64 (q1 : Int))) (w.heap.size + 1) 3 #[.int .i64 (q1 : Int)] := HY.out.set_ 0 (.int .i64 (q1 : Int))
    have hO9 := Only.set_ w8 (w.heap.size + 1) 0 (.int .i64 (q1 : Int))
    have hx9 := Lib.hid (hO9.blk hB8.out (show w.heap.size ≠ w.heap.size + 1 by omega))
    have he9 := hO9.blk HE.out (show w.heap.size + 1 + 1 ≠ w.heap.size + 1 by omega)
    have cg9 := (hO9.cell (p := ⟨w.heap.size + 1 + 1 + 1 + 1, 1, none⟩) (show w.heap.size + 1 + 1 + 1 + 1 ≠ w.heap.size + 1 by omega)).trans cg8
    refine wpAnyT_one 6 rfl (by kernel_rfl) (fun K hK => ?_)
    go_simp
    refine hK.out _ _ ⟨⟨hx9, cg9⟩, trivial⟩ (fun hH9 => ?_)
    clear hK K cy fy
    try simp only [Act.put, List.setIfInBounds_toArray, List.set_cons_zero, List.set_cons_succ]
    have HB9 := Lib.hid (HB.out.trans (hO9.below (show w.heap.size ≤ w.heap.size + 1 by omega)))
    have L1 := Lib.hid (L1.out.only hO9 (L1.out.apart_lo (by have := HL5.out; omega)))
    obtain ⟨w9, ew9⟩ : ∃ w9, w8.setCell ⟨w.heap.size + 1, 0, none⟩ (.int .i64 (q1 : Int)) = w9 := ⟨_, rfl⟩
    rw [ew9] at hY9 hx9 he9 HB9 hH9 L1 ⊢
    have HY9 := Lib.hid hY9
    have HE9 := Lib.hid he9
    have ce := he9.cell 0
    have fe := he9.frozen
    clear hO9 hY9 he9 cg9 ew9 hB8 hO8 cg8
    have o10 := Only.set_ w9 (w.heap.size + 1 + 1) 0 (.int .i64 0)
    have hx10 := Lib.hid (o10.blk hx9.out (show w.heap.size ≠ w.heap.size + 1 + 1 by omega))
    have hy10 := o10.blk HY9.out (show w.heap.size + 1 ≠ w.heap.size + 1 + 1 by omega)
    have he10 : Blk (w9.setCell ⟨w.heap.size + 1 + 1, 0, none⟩ (.int .i64 0)) (w.heap.size + 1 + 1) 39 #[.int .i64 0] := HE9.out.set_ 0 (.int .i64 0)
    have cg10 := (o10.cell (p := ⟨w.heap.size + 1 + 1 + 1 + 1, 1, none⟩) (show w.heap.size + 1 + 1 + 1 + 1 ≠ w.heap.size + 1 + 1 by omega)).trans hH9.1.2
    have HB10 := Lib.hid (HB9.out.trans (o10.below (show w.heap.size ≤ w.heap.size + 1 + 1 by omega)))
    have L1 := Lib.hid (L1.out.only o10 (L1.out.apart_lo (by have := HL5.out; omega)))
    have HY10 := Lib.hid hy10
    have HE10 := Lib.hid he10
    refine wpAnyT_last 7 rfl (by kernel_rfl) (by decide) (fun K hK => ?_)
    go_simp
    refine hK.out _ _ ⟨hx10, cg10⟩ (fun hH10 => ?_)
    clear hK K ce fe
    try simp only [Act.put, List.setIfInBounds_toArray, List.set_cons_zero, List.set_cons_succ]
    refine wpAnyT_done (by kernel_rfl) ?_ _
    obtain ⟨wf, ewf⟩ : ∃ wf, w9.setCell ⟨w.heap.size + 1 + 1, 0, none⟩ (.int .i64 0) = wf := ⟨_, rfl⟩
    rw [ewf] at hx10 HY10 HE10 HB10 L1 ⊢
    clear o10 hy10 he10 cg10 hH10 ewf hH hH8 hH9 hx9 HY9 HE9 HB9 HY HE HX HB cg
    refine NoPanic.normal ?_
    go_wp2_with fail
    refine leaves_cons (f := 53) (args := #[.pointer (some ⟨w.heap.size + 1 + 1 + 1, 0, none⟩), .pointer (some ⟨w.heap.size, 0, none⟩), .pointer (some ⟨w.heap.size + 1, 0, none⟩), .pointer (some ⟨w.heap.size + 1 + 1, 0, none⟩)]) (by simp) (by simp [go_sem]) ?_
    refine (met_returning _ _ _ _ _).mono ?_
    rintro e u' w' ⟨rfl, rfl, hw⟩
    rw [← hw]
    clear hw
    show Leaves _ _ _ _ [] .returning wf
    try rw [hr]
    exact ⟨_, res_ccc Tryz.results27 rfl rfl rfl (load_blk hx10.out Tryz.underlying53 rfl Tryz.sizeMet) (load_int (HY10.out.cell 0)) (load_errno (HE10.out.cell 0)), HB10.out, ⟨_, rfl, ⟨M1, rfl, rfl, L1.out.mono (by have := HL5.out; omega), b1⟩⟩⟩
set_option maxRecDepth 100000 in
set_option maxHeartbeats 4000000 in
theorem met_got_bad (A : Option Addr) (n cap : Nat) (at_ : Int) (w : World) (hn : n ≤ 140737488351232) (h : at_ < 0 ∨ (n : Int) < at_) :
    Calls Tryz.prog 27 #[.slice A n cap, .int .i64 at_, .func (.func 28) #[] #[]] w fun e w' => e = .returned (.tuple #[.agg #[.int .i64 0, .int .i64 0, .int .i64 0, .int .u64 0, .slice none 0 0, .int .u64 0, .slice none 0 0, .slice none 0 0, .slice none 0 0, .slice none 0 0, .slice none 0 0, .slice none 0 0, .slice none 0 0, .int .u64 0], .int .i64 0, .int .i64 2]) ∧ Below w.heap.size w w' := by
  rcases h with h | h
  · skip
    have d1 : decide (at_ < 0) = true := decide_eq_true h
    have d2 : decide (at_ > (n : Int)) = false := decide_eq_false (by omega)
    have d3 : decide ((n : Int) < at_) = false := decide_eq_false (by omega)
    obtain ⟨hx, hy, he, hn, hb⟩ := got_four w 53 #[.int .i64 0, .int .i64 0, .int .i64 0, .int .u64 0, .slice none 0 0, .int .u64 0, .slice none 0 0, .slice none 0 0, .slice none 0 0, .slice none 0 0, .slice none 0 0, .slice none 0 0, .slice none 0 0, .int .u64 0]
    have HX := Lib.hid hx
    have HY := Lib.hid hy
    have HE := Lib.hid he
    have HN := Lib.hid hn
    have HB := Lib.hid hb
    clear hx hy he hn hb h
    go_enter_defers Tryz.func27, Tryz.ntmps27
    go_wp2_with (first
      | (refine wpl_load_blk rfl 53 (.tmp 9) rfl (w.heap.size + 1 + 1 + 1) 53 #[.int .i64 0, .int .i64 0, .int .i64 0, .int .u64 0, .slice none 0 0, .int .u64 0, .slice none 0 0, .slice none 0 0, .slice none 0 0, .slice none 0 0, .slice none 0 0, .slice none 0 0, .slice none 0 0, .int .u64 0] _ rfl HN.out Tryz.underlying53 rfl Tryz.sizeMet ?_)
      | (refine wpl_store_blk rfl 53 (.tmp 6) (.tmp 19) rfl w.heap.size 53 #[.int .i64 0, .int .i64 0, .int .i64 0, .int .u64 0, .slice none 0 0, .int .u64 0, .slice none 0 0, .slice none 0 0, .slice none 0 0, .slice none 0 0, .slice none 0 0, .slice none 0 0, .slice none 0 0, .int .u64 0] #[.int .i64 0, .int .i64 0, .int .i64 0, .int .u64 0, .slice none 0 0, .int .u64 0, .slice none 0 0, .slice none 0 0, .slice none 0 0, .slice none 0 0, .slice none 0 0, .slice none 0 0, .slice none 0 0, .int .u64 0] rfl rfl HX.out rfl Tryz.sizeMet rfl ?_; intro w5 hB hO; have hy := hO.out.blk HY.out (by omega); have he := hO.out.blk HE.out (by omega); have cy := hy.cell 0; have fy := hy.frozen; have ce := he.cell 0; have fe := he.frozen; have HY := Lib.hid hy; have HE := Lib.hid he; clear hy he))
    have o1 := Only.set_ w5 (w.heap.size + 1) 0 (.int .i64 0)
    have y1 : Blk (w5.setCell ⟨w.heap.size + 1, 0, none⟩ (.int .i64 0)) (w.heap.size + 1) 3 #[.int .i64 0] := HY.out.set_ 0 (.int .i64 0)
    have x1 := o1.blk hB.out (show w.heap.size ≠ w.heap.size + 1 by omega)
    have e1 := o1.blk HE.out (show w.heap.size + 1 + 1 ≠ w.heap.size + 1 by omega)
    obtain ⟨w6, ew6⟩ : ∃ w6, w5.setCell ⟨w.heap.size + 1, 0, none⟩ (.int .i64 0) = w6 := ⟨_, rfl⟩
    rw [ew6] at o1 y1 x1 e1 ⊢
    have o2 := Only.set_ w6 (w.heap.size + 1 + 1) 0 (.int .i64 2)
    have e2 : Blk (w6.setCell ⟨w.heap.size + 1 + 1, 0, none⟩ (.int .i64 2)) (w.heap.size + 1 + 1) 39 #[.int .i64 2] := e1.set_ 0 (.int .i64 2)
    have x2 := o2.blk x1 (show w.heap.size ≠ w.heap.size + 1 + 1 by omega)
    have y2 := o2.blk y1 (show w.heap.size + 1 ≠ w.heap.size + 1 + 1 by omega)
    have b2 := ((HB.out.trans (hO.out.below (Nat.le_refl _))).trans (o1.below (show w.heap.size ≤ w.heap.size + 1 by omega))).trans (o2.below (show w.heap.size ≤ w.heap.size + 1 + 1 by omega))
    obtain ⟨w7, ew7⟩ : ∃ w7, w6.setCell ⟨w.heap.size + 1 + 1, 0, none⟩ (.int .i64 2) = w7 := ⟨_, rfl⟩
    rw [ew7] at e2 x2 y2 b2 ⊢
    refine door_ret ?_
    exact ⟨_, res_ccc Tryz.results27 rfl rfl rfl (load_blk x2 Tryz.underlying53 rfl Tryz.sizeMet) (load_int (y2.cell 0)) (load_errno (e2.cell 0)), rfl, b2⟩
  · skip
    have d1 : decide (at_ < 0) = false := decide_eq_false (by omega)
    have d2 : decide (at_ > (n : Int)) = true := decide_eq_true h
    have d3 : decide ((n : Int) < at_) = true := decide_eq_true h
    obtain ⟨hx, hy, he, hn, hb⟩ := got_four w 53 #[.int .i64 0, .int .i64 0, .int .i64 0, .int .u64 0, .slice none 0 0, .int .u64 0, .slice none 0 0, .slice none 0 0, .slice none 0 0, .slice none 0 0, .slice none 0 0, .slice none 0 0, .slice none 0 0, .int .u64 0]
    have HX := Lib.hid hx
    have HY := Lib.hid hy
    have HE := Lib.hid he
    have HN := Lib.hid hn
    have HB := Lib.hid hb
    clear hx hy he hn hb h
    go_enter_defers Tryz.func27, Tryz.ntmps27
    go_wp2_with (first
      | (refine wpl_load_blk rfl 53 (.tmp 9) rfl (w.heap.size + 1 + 1 + 1) 53 #[.int .i64 0, .int .i64 0, .int .i64 0, .int .u64 0, .slice none 0 0, .int .u64 0, .slice none 0 0, .slice none 0 0, .slice none 0 0, .slice none 0 0, .slice none 0 0, .slice none 0 0, .slice none 0 0, .int .u64 0] _ rfl HN.out Tryz.underlying53 rfl Tryz.sizeMet ?_)
      | (refine wpl_store_blk rfl 53 (.tmp 6) (.tmp 19) rfl w.heap.size 53 #[.int .i64 0, .int .i64 0, .int .i64 0, .int .u64 0, .slice none 0 0, .int .u64 0, .slice none 0 0, .slice none 0 0, .slice none 0 0, .slice none 0 0, .slice none 0 0, .slice none 0 0, .slice none 0 0, .int .u64 0] #[.int .i64 0, .int .i64 0, .int .i64 0, .int .u64 0, .slice none 0 0, .int .u64 0, .slice none 0 0, .slice none 0 0, .slice none 0 0, .slice none 0 0, .slice none 0 0, .slice none 0 0, .slice none 0 0, .int .u64 0] rfl rfl HX.out rfl Tryz.sizeMet rfl ?_; intro w5 hB hO; have hy := hO.out.blk HY.out (by omega); have he := hO.out.blk HE.out (by omega); have cy := hy.cell 0; have fy := hy.frozen; have ce := he.cell 0; have fe := he.frozen; have HY := Lib.hid hy; have HE := Lib.hid he; clear hy he))
    have o1 := Only.set_ w5 (w.heap.size + 1) 0 (.int .i64 0)
    have y1 : Blk (w5.setCell ⟨w.heap.size + 1, 0, none⟩ (.int .i64 0)) (w.heap.size + 1) 3 #[.int .i64 0] := HY.out.set_ 0 (.int .i64 0)
    have x1 := o1.blk hB.out (show w.heap.size ≠ w.heap.size + 1 by omega)
    have e1 := o1.blk HE.out (show w.heap.size + 1 + 1 ≠ w.heap.size + 1 by omega)
    obtain ⟨w6, ew6⟩ : ∃ w6, w5.setCell ⟨w.heap.size + 1, 0, none⟩ (.int .i64 0) = w6 := ⟨_, rfl⟩
    rw [ew6] at o1 y1 x1 e1 ⊢
    have o2 := Only.set_ w6 (w.heap.size + 1 + 1) 0 (.int .i64 2)
    have e2 : Blk (w6.setCell ⟨w.heap.size + 1 + 1, 0, none⟩ (.int .i64 2)) (w.heap.size + 1 + 1) 39 #[.int .i64 2] := e1.set_ 0 (.int .i64 2)
    have x2 := o2.blk x1 (show w.heap.size ≠ w.heap.size + 1 + 1 by omega)
    have y2 := o2.blk y1 (show w.heap.size + 1 ≠ w.heap.size + 1 + 1 by omega)
    have b2 := ((HB.out.trans (hO.out.below (Nat.le_refl _))).trans (o1.below (show w.heap.size ≤ w.heap.size + 1 by omega))).trans (o2.below (show w.heap.size ≤ w.heap.size + 1 + 1 by omega))
    obtain ⟨w7, ew7⟩ : ∃ w7, w6.setCell ⟨w.heap.size + 1 + 1, 0, none⟩ (.int .i64 2) = w7 := ⟨_, rfl⟩
    rw [ew7] at e2 x2 y2 b2 ⊢
    refine door_ret ?_
    exact ⟨_, res_ccc Tryz.results27 rfl rfl rfl (load_blk x2 Tryz.underlying53 rfl Tryz.sizeMet) (load_int (y2.cell 0)) (load_errno (e2.cell 0)), rfl, b2⟩
set_option maxRecDepth 100000 in
set_option maxHeartbeats 2000000 in
theorem met_read (A : Option Addr) (n cap : Nat) (bs : List Nat) (p : Nat) (w : World) (HI : Hid (InB w A n cap bs)) (hp : p ≤ n) :
    Calls Tryz.prog 10 #[.slice A n cap, .int .i64 (p : Int)] w (RetG (rMet bs p) (vMet w.heap.size) (.agg #[.int .i64 0, .int .i64 0, .int .i64 0, .int .u64 0, .slice none 0 0, .int .u64 0, .slice none 0 0, .slice none 0 0, .slice none 0 0, .slice none 0 0, .slice none 0 0, .slice none 0 0, .slice none 0 0, .int .u64 0]) w) := by
  have hx := Blk.new w 53 #[.int .i64 0, .int .i64 0, .int .i64 0, .int .u64 0, .slice none 0 0, .int .u64 0, .slice none 0 0, .slice none 0 0, .slice none 0 0, .slice none 0 0, .slice none 0 0, .slice none 0 0, .slice none 0 0, .int .u64 0]
  have hb0 := (Below.refl w.heap.size w).alloc (Nat.le_refl _) (.cells #[.int .i64 0, .int .i64 0, .int .i64 0, .int .u64 0, .slice none 0 0, .int .u64 0, .slice none 0 0, .slice none 0 0, .slice none 0 0, .slice none 0 0, .slice none 0 0, .slice none 0 0, .slice none 0 0, .int .u64 0] 53)
  obtain ⟨w0, ew0⟩ : ∃ w0, w.alloc (.cells #[.int .i64 0, .int .i64 0, .int .i64 0, .int .u64 0, .slice none 0 0, .int .u64 0, .slice none 0 0, .slice none 0 0, .slice none 0 0, .slice none 0 0, .slice none 0 0, .slice none 0 0, .slice none 0 0, .int .u64 0] 53) = w0 := ⟨_, rfl⟩
  rw [ew0] at hx hb0
  have HX := Lib.hid hx
  have HB0 := Lib.hid hb0
  clear hx hb0
  go_enter Tryz.func10, Tryz.ntmps10
  go_wp2_with fail
  clear ew0
  refine (met_got A n cap bs p w0 (Lib.hid (HI.out.later HB0.out)) hp).mono ?_
  have HX0 := Lib.hid HX.out.lt
  cases hr : rMet bs p with
  | none =>
    rintro e w1 ⟨hb, rfl⟩
    have HX := Lib.hid (HX.out.below hb HX.out.lt)
    have HB := Lib.hid (HB0.out.trans (hb.mono HB0.out.size))
    clear hb
    go_wp2_with (refine wpl_store_blk rfl 53 (.tmp 4) (.tmp 10) rfl w.heap.size 53 #[.int .i64 0, .int .i64 0, .int .i64 0, .int .u64 0, .slice none 0 0, .int .u64 0, .slice none 0 0, .slice none 0 0, .slice none 0 0, .slice none 0 0, .slice none 0 0, .slice none 0 0, .slice none 0 0, .int .u64 0] #[.int .i64 0, .int .i64 0, .int .i64 0, .int .u64 0, .slice none 0 0, .int .u64 0, .slice none 0 0, .slice none 0 0, .slice none 0 0, .slice none 0 0, .slice none 0 0, .slice none 0 0, .slice none 0 0, .int .u64 0] rfl rfl HX.out rfl Tryz.sizeMet rfl ?_; intro w2 hB hO)
    refine bodyPost_ret (v := .tuple #[.agg #[.int .i64 0, .int .i64 0, .int .i64 0, .int .u64 0, .slice none 0 0, .int .u64 0, .slice none 0 0, .slice none 0 0, .slice none 0 0, .slice none 0 0, .slice none 0 0, .slice none 0 0, .slice none 0 0, .int .u64 0], .int .i64 0, .int .i64 50]) (res_ctt Tryz.results10 rfl rfl rfl (load_blk hB.out Tryz.underlying53 rfl Tryz.sizeMet)) rfl ?_
    have HB := HB.out.trans (hO.out.below (Nat.le_refl _))
    rw [hr]
    exact ⟨HB, rfl⟩
  | some x =>
    obtain ⟨x1, q1⟩ := x
    rintro e w1 ⟨hb, v, rfl, ⟨M1, rfl, rfl, l1, b1⟩⟩
    have HX := Lib.hid (HX.out.below hb HX.out.lt)
    have HB := Lib.hid (HB0.out.trans (hb.mono HB0.out.size))
    have L1 := Lib.hid l1
    clear l1
    clear hb
    go_wp2_with (refine wpl_store_blk rfl 53 (.tmp 4) (.tmp 10) rfl w.heap.size 53 #[.int .i64 0, .int .i64 0, .int .i64 0, .int .u64 0, .slice none 0 0, .int .u64 0, .slice none 0 0, .slice none 0 0, .slice none 0 0, .slice none 0 0, .slice none 0 0, .slice none 0 0, .slice none 0 0, .int .u64 0] M1.cs rfl rfl HX.out rfl Tryz.sizeMet rfl ?_; intro w2 hB hO)
    refine bodyPost_ret (v := .tuple #[.agg M1.cs, .int .i64 (q1 : Int), .int .i64 0]) (res_ctt Tryz.results10 rfl rfl rfl (load_blk hB.out Tryz.underlying53 rfl Tryz.sizeMet)) rfl ?_
    have HB := HB.out.trans (hO.out.below (Nat.le_refl _))
    have L1 := Lib.hid (L1.out.only hO.out (L1.out.apart_lo HX0.out))
    rw [hr]
    exact ⟨HB, _, rfl, ⟨M1, rfl, rfl, L1.out.mono (by have := HB0.out.size; omega), b1⟩⟩
set_option maxRecDepth 100000 in
set_option maxHeartbeats 2000000 in
theorem met_read_bad (A : Option Addr) (n cap : Nat) (at_ : Int) (w : World) (hn : n ≤ 140737488351232) (h : at_ < 0 ∨ (n : Int) < at_) :
    Calls Tryz.prog 10 #[.slice A n cap, .int .i64 at_] w fun e w' => e = .returned (.tuple #[.agg #[.int .i64 0, .int .i64 0, .int .i64 0, .int .u64 0, .slice none 0 0, .int .u64 0, .slice none 0 0, .slice none 0 0, .slice none 0 0, .slice none 0 0, .slice none 0 0, .slice none 0 0, .slice none 0 0, .int .u64 0], .int .i64 0, .int .i64 2]) ∧ Below w.heap.size w w' := by
  have hx := Blk.new w 53 #[.int .i64 0, .int .i64 0, .int .i64 0, .int .u64 0, .slice none 0 0, .int .u64 0, .slice none 0 0, .slice none 0 0, .slice none 0 0, .slice none 0 0, .slice none 0 0, .slice none 0 0, .slice none 0 0, .int .u64 0]
  have hb0 := (Below.refl w.heap.size w).alloc (Nat.le_refl _) (.cells #[.int .i64 0, .int .i64 0, .int .i64 0, .int .u64 0, .slice none 0 0, .int .u64 0, .slice none 0 0, .slice none 0 0, .slice none 0 0, .slice none 0 0, .slice none 0 0, .slice none 0 0, .slice none 0 0, .int .u64 0] 53)
  obtain ⟨w0, ew0⟩ : ∃ w0, w.alloc (.cells #[.int .i64 0, .int .i64 0, .int .i64 0, .int .u64 0, .slice none 0 0, .int .u64 0, .slice none 0 0, .slice none 0 0, .slice none 0 0, .slice none 0 0, .slice none 0 0, .slice none 0 0, .slice none 0 0, .int .u64 0] 53) = w0 := ⟨_, rfl⟩
  rw [ew0] at hx hb0
  have HX := Lib.hid hx
  have HB0 := Lib.hid hb0
  clear hx hb0
  go_enter Tryz.func10, Tryz.ntmps10
  go_wp2_with fail
  clear ew0
  refine (met_got_bad A n cap at_ w0 hn h).mono ?_
  rintro e w1 ⟨rfl, hb⟩
  have HX := Lib.hid (HX.out.below hb HX.out.lt)
  have HB := Lib.hid (HB0.out.trans (hb.mono HB0.out.size))
  clear hb
  go_wp2_with (refine wpl_store_blk rfl 53 (.tmp 4) (.tmp 10) rfl w.heap.size 53 #[.int .i64 0, .int .i64 0, .int .i64 0, .int .u64 0, .slice none 0 0, .int .u64 0, .slice none 0 0, .slice none 0 0, .slice none 0 0, .slice none 0 0, .slice none 0 0, .slice none 0 0, .slice none 0 0, .int .u64 0] #[.int .i64 0, .int .i64 0, .int .i64 0, .int .u64 0, .slice none 0 0, .int .u64 0, .slice none 0 0, .slice none 0 0, .slice none 0 0, .slice none 0 0, .slice none 0 0, .slice none 0 0, .slice none 0 0, .int .u64 0] rfl rfl HX.out rfl Tryz.sizeMet rfl ?_; intro w2 hB hO)
  refine bodyPost_ret (v := .tuple #[.agg #[.int .i64 0, .int .i64 0, .int .i64 0, .int .u64 0, .slice none 0 0, .int .u64 0, .slice none 0 0, .slice none 0 0, .slice none 0 0, .slice none 0 0, .slice none 0 0, .slice none 0 0, .slice none 0 0, .int .u64 0], .int .i64 0, .int .i64 2]) (res_ctt Tryz.results10 rfl rfl rfl (load_blk hB.out Tryz.underlying53 rfl Tryz.sizeMet)) rfl ?_
  have HB := HB.out.trans (hO.out.below (Nat.le_refl _))
  exact ⟨rfl, HB⟩
end Go.Proofs.YthgiafjiemiifaaGreat
end
