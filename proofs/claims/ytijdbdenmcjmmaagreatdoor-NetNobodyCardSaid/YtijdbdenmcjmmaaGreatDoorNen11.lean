/-
  THE PROGRAM'S READER: the exported readers' common way. (printed by gen_pag2.py). (joined out of PaG2 by shake.py)
-/
import Derived.Test.YtijdbdenmcjmmaaGreatDoorNen10
section
namespace Go.Proofs.YtijdbdenmcjmmaaGreatDoor
open Go.RowKit OctMath
set_option linter.unusedVariables false
set_option linter.unusedSimpArgs false
structure InB (w : World) (A : Option Addr) (n cap : Nat) (bs : List Nat) : Prop where
  rd : Reads w w.heap.size 1 A n (bs.map bv)
  byt : Byt bs
  len : bs.length = n
  le : n ≤ cap
  mx : cap ≤ maxLen
  reach : n ≤ 140737488351232
theorem got_start (w : World) (T : TypeId) (zs : Array Value) {A : Option Addr} {n cap p : Nat} {bs : List Nat} (HI : InB w A n cap bs) (hp : p ≤ n) :
    Blk (((((w.alloc (.cells zs T)).alloc (.cells #[.int .i64 0] 3)).alloc (.cells #[.int .i64 0] 47)).alloc (.cells zs T)).alloc (.cells #[.slice A n cap, .int .i64 (p : Int)] 155)) w.heap.size T zs ∧
    Blk (((((w.alloc (.cells zs T)).alloc (.cells #[.int .i64 0] 3)).alloc (.cells #[.int .i64 0] 47)).alloc (.cells zs T)).alloc (.cells #[.slice A n cap, .int .i64 (p : Int)] 155)) (w.heap.size + 1) 3 #[.int .i64 0] ∧
    Blk (((((w.alloc (.cells zs T)).alloc (.cells #[.int .i64 0] 3)).alloc (.cells #[.int .i64 0] 47)).alloc (.cells zs T)).alloc (.cells #[.slice A n cap, .int .i64 (p : Int)] 155)) (w.heap.size + 1 + 1) 47 #[.int .i64 0] ∧
    Blk (((((w.alloc (.cells zs T)).alloc (.cells #[.int .i64 0] 3)).alloc (.cells #[.int .i64 0] 47)).alloc (.cells zs T)).alloc (.cells #[.slice A n cap, .int .i64 (p : Int)] 155)) (w.heap.size + 1 + 1 + 1) T zs ∧
    PG (w.heap.size + 1 + 1 + 1 + 1) A n cap bs p (((((w.alloc (.cells zs T)).alloc (.cells #[.int .i64 0] 3)).alloc (.cells #[.int .i64 0] 47)).alloc (.cells zs T)).alloc (.cells #[.slice A n cap, .int .i64 (p : Int)] 155)) ∧
    Below w.heap.size w (((((w.alloc (.cells zs T)).alloc (.cells #[.int .i64 0] 3)).alloc (.cells #[.int .i64 0] 47)).alloc (.cells zs T)).alloc (.cells #[.slice A n cap, .int .i64 (p : Int)] 155)) := by
  obtain ⟨w1, e1⟩ : ∃ w1, w.alloc (.cells zs T) = w1 := ⟨_, rfl⟩
  have s1 : w1.heap.size = w.heap.size + 1 := by rw [← e1]; simp
  have x1 : Blk w1 w.heap.size T zs := by rw [← e1]; exact Blk.new w T zs
  have b1 : Below w.heap.size w w1 := by rw [← e1]; exact (Below.refl _ _).alloc (Nat.le_refl _) _
  rw [e1]
  obtain ⟨w2, e2⟩ : ∃ w2, w1.alloc (.cells #[.int .i64 0] 3) = w2 := ⟨_, rfl⟩
  have s2 : w2.heap.size = w.heap.size + 1 + 1 := by rw [← e2]; simp [s1]
  have x2 : Blk w2 w.heap.size T zs := by rw [← e2]; exact x1.alloc _
  have y2 : Blk w2 (w.heap.size + 1) 3 #[.int .i64 0] := by rw [← e2, ← s1]; exact Blk.new w1 _ _
  have b2 : Below w.heap.size w w2 := by rw [← e2]; exact b1.alloc (by omega) _
  rw [e2]
  obtain ⟨w3, e3⟩ : ∃ w3, w2.alloc (.cells #[.int .i64 0] 47) = w3 := ⟨_, rfl⟩
  have s3 : w3.heap.size = w.heap.size + 1 + 1 + 1 := by rw [← e3]; simp [s2]
  have x3 : Blk w3 w.heap.size T zs := by rw [← e3]; exact x2.alloc _
  have y3 : Blk w3 (w.heap.size + 1) 3 #[.int .i64 0] := by rw [← e3]; exact y2.alloc _
  have z3 : Blk w3 (w.heap.size + 1 + 1) 47 #[.int .i64 0] := by rw [← e3, ← s2]; exact Blk.new w2 _ _
  have b3 : Below w.heap.size w w3 := by rw [← e3]; exact b2.alloc (by omega) _
  rw [e3]
  obtain ⟨w4, e4⟩ : ∃ w4, w3.alloc (.cells zs T) = w4 := ⟨_, rfl⟩
  have s4 : w4.heap.size = w.heap.size + 1 + 1 + 1 + 1 := by rw [← e4]; simp [s3]
  have x4 : Blk w4 w.heap.size T zs := by rw [← e4]; exact x3.alloc _
  have y4 : Blk w4 (w.heap.size + 1) 3 #[.int .i64 0] := by rw [← e4]; exact y3.alloc _
  have z4 : Blk w4 (w.heap.size + 1 + 1) 47 #[.int .i64 0] := by rw [← e4]; exact z3.alloc _
  have n4 : Blk w4 (w.heap.size + 1 + 1 + 1) T zs := by rw [← e4, ← s3]; exact Blk.new w3 _ _
  have b4 : Below w.heap.size w w4 := by rw [← e4]; exact b3.alloc (by omega) _
  rw [e4]
  have b5 : Below w.heap.size w (w4.alloc (.cells #[.slice A n cap, .int .i64 (p : Int)] 155)) := b4.alloc (by omega) _
  refine ⟨x4.alloc _, y4.alloc _, z4.alloc _, n4.alloc _, ⟨?_, HI.rd.later b5, ?_, HI.byt, HI.len, HI.le, HI.mx, HI.reach, hp⟩, b5⟩
  · rw [← s4]; exact Blk.new w4 _ _
  · intro h0 ad e
    obtain ⟨ad', e', hb, -⟩ := HI.rd.2 h0
    rw [e] at e'
    obtain rfl := Option.some.inj e'
    show ad.block ≠ _
    omega
section
variable {P : Program} {fn : Func} {tmps : Array Value} {a b c : Nat} {ty ty' ty'' : TypeId} {p q r : Addr} {u v z : Value} {w : World}
theorem res_ccc (hr : fn.results = #[.cell a ty, .cell b ty', .cell c ty'']) (ha : tmps.getD a undef = .pointer (some p)) (hb : tmps.getD b undef = .pointer (some q)) (hc : tmps.getD c undef = .pointer (some r)) (hl : (loadVar ty p).run P w = .ok u w) (hl' : (loadVar ty' q).run P w = .ok v w) (hl'' : (loadVar ty'' r).run P w = .ok z w) :
    (results fn tmps).run P w = .ok (.tuple #[u, v, z]) w := by
  simp only [Array.getD_eq_getD_getElem?] at ha hb hc
  simp [results, hr, ha, hb, hc, asAddr, hl, hl', hl'']
end
theorem load_int {w : World} {p : Addr} {v : Value} (hc : w.cell? p = some v) : (loadVar 3 p).run Tryz.prog w = .ok v w := by
  simp [loadVar, isAgg, go_sem, Tryz.underlying3, hc]
theorem load_errno {w : World} {p : Addr} {v : Value} (hc : w.cell? p = some v) : (loadVar 47 p).run Tryz.prog w = .ok v w := by
  simp [loadVar, isAgg, go_sem, Tryz.underlying47, hc]
def RetG {α : Type} (r : Option (α × Nat)) (val : α → World → Value → Prop) (z : Value) (w : World) (e : Ending) (w' : World) : Prop := Below w.heap.size w w' ∧ match r with
  | some (x, q) => ∃ v, e = .returned (.tuple #[v, .int .i64 (q : Int), .int .i64 0]) ∧ val x w' v
  | none => e = .returned (.tuple #[z, .int .i64 0, .int .i64 50])
set_option maxRecDepth 100000 in
set_option maxHeartbeats 4000000 in
theorem hd_got (A : Option Addr) (n cap : Nat) (bs : List Nat) (p : Nat) (w : World) (HI : Hid (InB w A n cap bs)) (hp : p ≤ n) :
    Calls Tryz.prog 46 #[.slice A n cap, .int .i64 (p : Int), .func (.func 47) #[] #[]] w (RetG (rHd bs p) vHd (.agg #[.int .u64 0, .int .i64 0, .int .u64 0, .int .i64 0, .int .i64 0, .int .i64 0, .int .u32 0]) w) := by
  have d1 : decide ((p : Int) < 0) = false := decide_eq_false (by omega)
  have d2 : decide ((p : Int) > (n : Int)) = false := decide_eq_false (by omega)
  have d3 : decide (n < p) = false := decide_eq_false (by omega)
  have hmf : ∀ (fn : Fn) (first cap : Array Value) (w : World), (Instr.makeFunc fn first cap).run Tryz.prog w = .ok (.func fn first cap) w := fun _ _ _ _ => rfl
  go_enter_defers Tryz.func46, Tryz.ntmps46
  go_wp2_with fail
  have hs := got_start w 32 #[.int .u64 0, .int .i64 0, .int .u64 0, .int .i64 0, .int .i64 0, .int .i64 0, .int .u32 0] HI.out hp
  obtain ⟨w5, ew5⟩ : ∃ w5, ((((w.alloc (.cells #[.int .u64 0, .int .i64 0, .int .u64 0, .int .i64 0, .int .i64 0, .int .i64 0, .int .u32 0] 32)).alloc (.cells #[.int .i64 0] 3)).alloc (.cells #[.int .i64 0] 47)).alloc (.cells #[.int .u64 0, .int .i64 0, .int .u64 0, .int .i64 0, .int .i64 0, .int .i64 0, .int .u32 0] 32)).alloc (.cells #[.slice A n cap, .int .i64 (p : Int)] 155) = w5 := ⟨_, rfl⟩
  rw [ew5] at hs ⊢
  obtain ⟨hx, hy, he, hn, hg, hb⟩ := hs
  have HX := Lh hx
  have HY := Lh hy
  have HE := Lh he
  have HN := Lh hn
  have HB := Lh hb
  clear hx hy he hn hb ew5 hmf
  refine (pg_header (w.heap.size + 1 + 1 + 1 + 1) A n cap bs p _ (Lh hg)).mono ?_
  have HL5 := Lh hg.blk.lt
  clear hg
  cases hr : rHd bs p with
  | none =>
    rintro e w6 ⟨rfl, hk⟩
    have HX := Lh (hk.notBlk HX.out (by omega))
    have HY := Lh (hk.notBlk HY.out (by omega))
    have HE := Lh (hk.notBlk HE.out (by omega))
    have HN := Lh (hk.notBlk HN.out (by omega))
    have HB := Lh (HB.out.trans (hk.toBelow (B := w.heap.size) (by have := HX.out.lt; have := HB.out.size; omega) (fun k hk => by show k ≠ _; omega)))
    clear hk
    refine leaves_cons (f := 74) (args := #[.pointer (some ⟨w.heap.size + 1 + 1 + 1, 0, none⟩), .pointer (some ⟨w.heap.size, 0, none⟩), .pointer (some ⟨w.heap.size + 1, 0, none⟩), .pointer (some ⟨w.heap.size + 1 + 1, 0, none⟩)]) (by simp) (by simp [go_sem]) ?_
    refine (hd_panicking _ _ _ _ [] _ _ HN HX (Lh rfl) _ _ HY HE (by omega) (by omega)).mono ?_
    rintro e u' w7 ⟨rfl, rfl, x7, y7, e7, b7⟩
    show Leaves _ _ _ _ [] .returning w7
    exact ⟨_, res_ccc Tryz.results46 rfl rfl rfl (load_blk x7 Tryz.underlying32 rfl Tryz.sizeH) (load_int (y7.cell 0)) (load_errno (e7.cell 0)), HB.out.trans b7, rfl⟩
  | some x =>
    obtain ⟨x1, q1⟩ := x
    rintro e w6 ⟨v, rfl, ⟨rfl, b1⟩, hp6, hk⟩
    have HX := Lh (hk.notBlk HX.out (by omega))
    have HY := Lh (hk.notBlk HY.out (by omega))
    have HE := Lh (hk.notBlk HE.out (by omega))
    have HB := Lh (HB.out.trans (hk.toBelow (B := w.heap.size) (by have := HX.out.lt; have := HB.out.size; omega) (fun k hk => by show k ≠ _; omega)))
    have HG := Lh hp6.blk
    clear hk HN hp6
    go_wp2_with (refine wpl_store_blk rfl 32 (.tmp 6) (.tmp 27) rfl w.heap.size 32 #[.int .u64 0, .int .i64 0, .int .u64 0, .int .i64 0, .int .i64 0, .int .i64 0, .int .u32 0] _ rfl rfl HX.out rfl Tryz.sizeH rfl ?_; intro w7 hB hO)
    have HY := Lh (hO.out.blk HY.out (by omega))
    have HE := Lh (hO.out.blk HE.out (by omega))
    have HG := Lh (hO.out.blk HG.out (by omega))
    have HB := Lh (HB.out.trans (hO.out.below (Nat.le_refl _)))
    have cg := HG.out.cell 1
    have cg : w7.cell? ⟨w.heap.size + 1 + 1 + 1 + 1, 1, none⟩ = some (.int .i64 (q1 : Int)) := cg
    clear HG HX hO d1 d2 d3 hp
    refine wp_region_noPanic ?_
    refine wp_region_late (S0 := fun w' => Hid (Blk w' w.heap.size 32 #[.int .u64 (x1.id.ver : Int), .int .i64 x1.id.idx, .int .u64 (x1.id.ep : Int), .int .i64 x1.k, .int .i64 x1.n, .int .i64 x1.size, .int .u32 (x1.sum : Int)]) ∧ w'.cell? ⟨w.heap.size + 1 + 1 + 1 + 1, 1, none⟩ = some (.int .i64 (q1 : Int))) (S := fun _ => True) 7 8 (by kernel_rfl) rfl ⟨⟨Lh hB.out.drew, cg⟩, trivial⟩ (fun wd hwd hH => ?_)
    have HY := Lh (show Blk wd _ _ _ from by rw [hwd]; exact HY.out.drew)
    have HE := Lh (show Blk wd _ _ _ from by rw [hwd]; exact HE.out.drew)
    have HB := Lh (show Below w.heap.size w wd from by rw [hwd]; exact HB.out.trans ((Below.refl _ _).drew))
    clear hwd hB cg
    refine wpAnyT_stay 0 rfl (by kernel_rfl) (fun _ _ _ h => h) (yields_load_blk rfl 32 (.tmp 6) rfl w.heap.size 32 #[.int .u64 (x1.id.ver : Int), .int .i64 x1.id.idx, .int .u64 (x1.id.ep : Int), .int .i64 x1.k, .int .i64 x1.n, .int .i64 x1.size, .int .u32 (x1.sum : Int)] _ rfl (fun w' hw' => hw'.1.out) Tryz.underlying32 rfl Tryz.sizeH) ⟨hH.1, fun _ => hH.2⟩ ?_
    try simp only [Act.put, pA9, pZ9, pS9]
    refine tS 1 rfl ?_ hH ?_ ?_
    rotate_left
    · (intro wx hx; obtain ⟨_, _⟩ := hx; go_simp <;> with_reducible rfl)
    try simp only [Act.put, pA9, pZ9, pS9]
    refine tS 2 rfl ?_ hH ?_ ?_
    rotate_left
    · (intro wx hx; obtain ⟨_, _⟩ := hx; go_simp <;> with_reducible rfl)
    try simp only [Act.put, pA9, pZ9, pS9]
    refine tS 3 rfl ?_ hH ?_ ?_
    rotate_left
    · (intro wx hx; obtain ⟨_, _⟩ := hx; go_simp <;> with_reducible rfl)
    try simp only [Act.put, pA9, pZ9, pS9]
    refine tS 4 rfl ?_ hH ?_ ?_
    rotate_left
    · (intro wx hx; obtain ⟨_, _⟩ := hx; go_simp <;> with_reducible rfl)
    try simp only [Act.put, pA9, pZ9, pS9]
    refine wpAnyT_one 5 rfl (by kernel_rfl) (fun K hK => ?_)
    refine step_store_blk rfl 32 (.tmp 6) (.tmp 28) rfl w.heap.size 32 #[.int .u64 (x1.id.ver : Int), .int .i64 x1.id.idx, .int .u64 (x1.id.ep : Int), .int .i64 x1.k, .int .i64 x1.n, .int .i64 x1.size, .int .u32 (x1.sum : Int)] #[.int .u64 (x1.id.ver : Int), .int .i64 x1.id.idx, .int .u64 (x1.id.ep : Int), .int .i64 x1.k, .int .i64 x1.n, .int .i64 x1.size, .int .u32 (x1.sum : Int)] rfl rfl hH.1.1.out rfl Tryz.sizeH rfl ?_
    intro w8 hB8 hO8
    have HY := Lh (hO8.out.blk HY.out (by omega))
    have HE := Lh (hO8.out.blk HE.out (by omega))
    have HB := Lh (HB.out.trans (hO8.out.below (Nat.le_refl _)))
    have cg8 := (hO8.out.cell (p := ⟨w.heap.size + 1 + 1 + 1 + 1, 1, none⟩) (show w.heap.size + 1 + 1 + 1 + 1 ≠ w.heap.size by omega)).trans hH.1.2
    refine hK.out _ _ ⟨⟨hB8, cg8⟩, trivial⟩ (fun hH8 => ?_)
    clear hK K
    try simp only [Act.put, pA9, pZ9, pS9]
    have cy := HY.out.cell 0
    have fy := HY.out.frozen
    have hY9 : Blk (w8.setCell ⟨w.heap.size + 1, 0, none⟩ (.int .i64 (q1 : Int))) (w.heap.size + 1) 3 #[.int .i64 (q1 : Int)] := HY.out.set_ 0 (.int .i64 (q1 : Int))
    have hO9 := Only.set_ w8 (w.heap.size + 1) 0 (.int .i64 (q1 : Int))
    have hx9 := Lh (hO9.blk hB8.out (show w.heap.size ≠ w.heap.size + 1 by omega))
    have he9 := hO9.blk HE.out (show w.heap.size + 1 + 1 ≠ w.heap.size + 1 by omega)
    have cg9 := (hO9.cell (p := ⟨w.heap.size + 1 + 1 + 1 + 1, 1, none⟩) (show w.heap.size + 1 + 1 + 1 + 1 ≠ w.heap.size + 1 by omega)).trans cg8
    refine wpAnyT_one 6 rfl (by kernel_rfl) (fun K hK => ?_)
    go_simp
    refine hK.out _ _ ⟨⟨hx9, cg9⟩, trivial⟩ (fun hH9 => ?_)
    clear hK K cy fy
    try simp only [Act.put, pA9, pZ9, pS9]
    have HB9 := Lh (HB.out.trans (hO9.below (show w.heap.size ≤ w.heap.size + 1 by omega)))
    obtain ⟨w9, ew9⟩ : ∃ w9, w8.setCell ⟨w.heap.size + 1, 0, none⟩ (.int .i64 (q1 : Int)) = w9 := ⟨_, rfl⟩
    rw [ew9] at hY9 hx9 he9 HB9 hH9  ⊢
    have HY9 := Lh hY9
    have HE9 := Lh he9
    have ce := he9.cell 0
    have fe := he9.frozen
    clear hO9 hY9 he9 cg9 ew9 hB8 hO8 cg8
    have o10 := Only.set_ w9 (w.heap.size + 1 + 1) 0 (.int .i64 0)
    have hx10 := Lh (o10.blk hx9.out (show w.heap.size ≠ w.heap.size + 1 + 1 by omega))
    have hy10 := o10.blk HY9.out (show w.heap.size + 1 ≠ w.heap.size + 1 + 1 by omega)
    have he10 : Blk (w9.setCell ⟨w.heap.size + 1 + 1, 0, none⟩ (.int .i64 0)) (w.heap.size + 1 + 1) 47 #[.int .i64 0] := HE9.out.set_ 0 (.int .i64 0)
    have cg10 := (o10.cell (p := ⟨w.heap.size + 1 + 1 + 1 + 1, 1, none⟩) (show w.heap.size + 1 + 1 + 1 + 1 ≠ w.heap.size + 1 + 1 by omega)).trans hH9.1.2
    have HB10 := Lh (HB9.out.trans (o10.below (show w.heap.size ≤ w.heap.size + 1 + 1 by omega)))
    have HY10 := Lh hy10
    have HE10 := Lh he10
    refine wpAnyT_last 7 rfl (by kernel_rfl) (by decide) (fun K hK => ?_)
    go_simp
    refine hK.out _ _ ⟨hx10, cg10⟩ (fun hH10 => ?_)
    clear hK K ce fe
    try simp only [Act.put, pA9, pZ9, pS9]
    refine wpAnyT_done (by kernel_rfl) ?_ _
    obtain ⟨wf, ewf⟩ : ∃ wf, w9.setCell ⟨w.heap.size + 1 + 1, 0, none⟩ (.int .i64 0) = wf := ⟨_, rfl⟩
    rw [ewf] at hx10 HY10 HE10 HB10  ⊢
    clear o10 hy10 he10 cg10 hH10 ewf hH hH8 hH9 hx9 HY9 HE9 HB9 HY HE HX HB cg
    refine NoPanic.normal ?_
    go_wp2_with fail
    refine leaves_cons (f := 74) (args := #[.pointer (some ⟨w.heap.size + 1 + 1 + 1, 0, none⟩), .pointer (some ⟨w.heap.size, 0, none⟩), .pointer (some ⟨w.heap.size + 1, 0, none⟩), .pointer (some ⟨w.heap.size + 1 + 1, 0, none⟩)]) (by simp) (by simp [go_sem]) ?_
    refine (hd_returning _ _ _ _ _).mono ?_
    rintro e u' w' ⟨rfl, rfl, hw⟩
    rw [← hw]
    clear hw
    show Leaves _ _ _ _ [] .returning wf
    try rw [hr]
    exact ⟨_, res_ccc Tryz.results46 rfl rfl rfl (load_blk hx10.out Tryz.underlying32 rfl Tryz.sizeH) (load_int (HY10.out.cell 0)) (load_errno (HE10.out.cell 0)), HB10.out, ⟨_, rfl, ⟨rfl, b1⟩⟩⟩
set_option maxRecDepth 100000 in
set_option maxHeartbeats 4000000 in
theorem conf_got (A : Option Addr) (n cap : Nat) (bs : List Nat) (p : Nat) (w : World) (HI : Hid (InB w A n cap bs)) (hp : p ≤ n) :
    Calls Tryz.prog 44 #[.slice A n cap, .int .i64 (p : Int), .func (.func 45) #[] #[]] w (RetG (rConf bs p) (vConf w.heap.size) (.agg #[.slice none 0 0, .slice none 0 0]) w) := by
  have d1 : decide ((p : Int) < 0) = false := decide_eq_false (by omega)
  have d2 : decide ((p : Int) > (n : Int)) = false := decide_eq_false (by omega)
  have d3 : decide (n < p) = false := decide_eq_false (by omega)
  have hmf : ∀ (fn : Fn) (first cap : Array Value) (w : World), (Instr.makeFunc fn first cap).run Tryz.prog w = .ok (.func fn first cap) w := fun _ _ _ _ => rfl
  go_enter_defers Tryz.func44, Tryz.ntmps44
  go_wp2_with fail
  have hs := got_start w 27 #[.slice none 0 0, .slice none 0 0] HI.out hp
  obtain ⟨w5, ew5⟩ : ∃ w5, ((((w.alloc (.cells #[.slice none 0 0, .slice none 0 0] 27)).alloc (.cells #[.int .i64 0] 3)).alloc (.cells #[.int .i64 0] 47)).alloc (.cells #[.slice none 0 0, .slice none 0 0] 27)).alloc (.cells #[.slice A n cap, .int .i64 (p : Int)] 155) = w5 := ⟨_, rfl⟩
  rw [ew5] at hs ⊢
  obtain ⟨hx, hy, he, hn, hg, hb⟩ := hs
  have HX := Lh hx
  have HY := Lh hy
  have HE := Lh he
  have HN := Lh hn
  have HB := Lh hb
  clear hx hy he hn hb ew5 hmf
  refine (pg_conf (w.heap.size + 1 + 1 + 1 + 1) A n cap bs p _ (Lh hg)).mono ?_
  have HL5 := Lh hg.blk.lt
  clear hg
  cases hr : rConf bs p with
  | none =>
    rintro e w6 ⟨rfl, hk⟩
    have HX := Lh (hk.notBlk HX.out (by omega))
    have HY := Lh (hk.notBlk HY.out (by omega))
    have HE := Lh (hk.notBlk HE.out (by omega))
    have HN := Lh (hk.notBlk HN.out (by omega))
    have HB := Lh (HB.out.trans (hk.toBelow (B := w.heap.size) (by have := HX.out.lt; have := HB.out.size; omega) (fun k hk => by show k ≠ _; omega)))
    clear hk
    refine leaves_cons (f := 72) (args := #[.pointer (some ⟨w.heap.size + 1 + 1 + 1, 0, none⟩), .pointer (some ⟨w.heap.size, 0, none⟩), .pointer (some ⟨w.heap.size + 1, 0, none⟩), .pointer (some ⟨w.heap.size + 1 + 1, 0, none⟩)]) (by simp) (by simp [go_sem]) ?_
    refine (conf_panicking _ _ _ _ [] _ _ HN HX (Lh rfl) _ _ HY HE (by omega) (by omega)).mono ?_
    rintro e u' w7 ⟨rfl, rfl, x7, y7, e7, b7⟩
    show Leaves _ _ _ _ [] .returning w7
    exact ⟨_, res_ccc Tryz.results44 rfl rfl rfl (load_blk x7 Tryz.underlying27 rfl Tryz.sizeF) (load_int (y7.cell 0)) (load_errno (e7.cell 0)), HB.out.trans b7, rfl⟩
  | some x =>
    obtain ⟨x1, q1⟩ := x
    rintro e w6 ⟨v, rfl, ⟨A1, c1, A2, c2, rfl, l1, l2, b1, b2⟩, hp6, hk⟩
    have HX := Lh (hk.notBlk HX.out (by omega))
    have HY := Lh (hk.notBlk HY.out (by omega))
    have HE := Lh (hk.notBlk HE.out (by omega))
    have HB := Lh (HB.out.trans (hk.toBelow (B := w.heap.size) (by have := HX.out.lt; have := HB.out.size; omega) (fun k hk => by show k ≠ _; omega)))
    have HG := Lh hp6.blk
    have L1 := Lh l1
    clear l1
    have L2 := Lh l2
    clear l2
    clear hk HN hp6
    go_wp2_with (refine wpl_store_blk rfl 27 (.tmp 6) (.tmp 27) rfl w.heap.size 27 #[.slice none 0 0, .slice none 0 0] _ rfl rfl HX.out rfl Tryz.sizeF rfl ?_; intro w7 hB hO)
    have HY := Lh (hO.out.blk HY.out (by omega))
    have HE := Lh (hO.out.blk HE.out (by omega))
    have HG := Lh (hO.out.blk HG.out (by omega))
    have HB := Lh (HB.out.trans (hO.out.below (Nat.le_refl _)))
    have L1 := Lh (L1.out.only hO.out (L1.out.apart_lo (by have := HL5.out; omega)))
    have L2 := Lh (L2.out.only hO.out (L2.out.apart_lo (by have := HL5.out; omega)))
    have cg := HG.out.cell 1
    have cg : w7.cell? ⟨w.heap.size + 1 + 1 + 1 + 1, 1, none⟩ = some (.int .i64 (q1 : Int)) := cg
    clear HG HX hO d1 d2 d3 hp
    refine wp_region_noPanic ?_
    refine wp_region_late (S0 := fun w' => Hid (Blk w' w.heap.size 27 #[.slice A1 x1.1.length c1, .slice A2 x1.2.length c2]) ∧ w'.cell? ⟨w.heap.size + 1 + 1 + 1 + 1, 1, none⟩ = some (.int .i64 (q1 : Int))) (S := fun _ => True) 7 8 (by kernel_rfl) rfl ⟨⟨Lh hB.out.drew, cg⟩, trivial⟩ (fun wd hwd hH => ?_)
    have HY := Lh (show Blk wd _ _ _ from by rw [hwd]; exact HY.out.drew)
    have HE := Lh (show Blk wd _ _ _ from by rw [hwd]; exact HE.out.drew)
    have HB := Lh (show Below w.heap.size w wd from by rw [hwd]; exact HB.out.trans ((Below.refl _ _).drew))
    have L1 := Lh (show Lst _ _ _ _ _ _ wd from by rw [hwd]; exact ⟨L1.out.rd, L1.out.lo, L1.out.kc, L1.out.cm⟩)
    have L2 := Lh (show Lst _ _ _ _ _ _ wd from by rw [hwd]; exact ⟨L2.out.rd, L2.out.lo, L2.out.kc, L2.out.cm⟩)
    clear hwd hB cg
    refine wpAnyT_stay 0 rfl (by kernel_rfl) (fun _ _ _ h => h) (yields_load_blk rfl 27 (.tmp 6) rfl w.heap.size 27 #[.slice A1 x1.1.length c1, .slice A2 x1.2.length c2] _ rfl (fun w' hw' => hw'.1.out) Tryz.underlying27 rfl Tryz.sizeF) ⟨hH.1, fun _ => hH.2⟩ ?_
    try simp only [Act.put, pA9, pZ9, pS9]
    refine tS 1 rfl ?_ hH ?_ ?_
    rotate_left
    · (intro wx hx; obtain ⟨_, _⟩ := hx; go_simp <;> with_reducible rfl)
    try simp only [Act.put, pA9, pZ9, pS9]
    refine tS 2 rfl ?_ hH ?_ ?_
    rotate_left
    · (intro wx hx; obtain ⟨_, _⟩ := hx; go_simp <;> with_reducible rfl)
    try simp only [Act.put, pA9, pZ9, pS9]
    refine tS 3 rfl ?_ hH ?_ ?_
    rotate_left
    · (intro wx hx; obtain ⟨_, _⟩ := hx; go_simp <;> with_reducible rfl)
    try simp only [Act.put, pA9, pZ9, pS9]
    refine tS 4 rfl ?_ hH ?_ ?_
    rotate_left
    · (intro wx hx; obtain ⟨_, _⟩ := hx; go_simp <;> with_reducible rfl)
    try simp only [Act.put, pA9, pZ9, pS9]
    refine wpAnyT_one 5 rfl (by kernel_rfl) (fun K hK => ?_)
    refine step_store_blk rfl 27 (.tmp 6) (.tmp 28) rfl w.heap.size 27 #[.slice A1 x1.1.length c1, .slice A2 x1.2.length c2] #[.slice A1 x1.1.length c1, .slice A2 x1.2.length c2] rfl rfl hH.1.1.out rfl Tryz.sizeF rfl ?_
    intro w8 hB8 hO8
    have HY := Lh (hO8.out.blk HY.out (by omega))
    have HE := Lh (hO8.out.blk HE.out (by omega))
    have HB := Lh (HB.out.trans (hO8.out.below (Nat.le_refl _)))
    have L1 := Lh (L1.out.only hO8.out (L1.out.apart_lo (by have := HL5.out; omega)))
    have L2 := Lh (L2.out.only hO8.out (L2.out.apart_lo (by have := HL5.out; omega)))
    have cg8 := (hO8.out.cell (p := ⟨w.heap.size + 1 + 1 + 1 + 1, 1, none⟩) (show w.heap.size + 1 + 1 + 1 + 1 ≠ w.heap.size by omega)).trans hH.1.2
    refine hK.out _ _ ⟨⟨hB8, cg8⟩, trivial⟩ (fun hH8 => ?_)
    clear hK K
    try simp only [Act.put, pA9, pZ9, pS9]
    have cy := HY.out.cell 0
    have fy := HY.out.frozen
    have hY9 : Blk (w8.setCell ⟨w.heap.size + 1, 0, none⟩ (.int .i64 (q1 : Int))) (w.heap.size + 1) 3 #[.int .i64 (q1 : Int)] := HY.out.set_ 0 (.int .i64 (q1 : Int))
    have hO9 := Only.set_ w8 (w.heap.size + 1) 0 (.int .i64 (q1 : Int))
    have hx9 := Lh (hO9.blk hB8.out (show w.heap.size ≠ w.heap.size + 1 by omega))
    have he9 := hO9.blk HE.out (show w.heap.size + 1 + 1 ≠ w.heap.size + 1 by omega)
    have cg9 := (hO9.cell (p := ⟨w.heap.size + 1 + 1 + 1 + 1, 1, none⟩) (show w.heap.size + 1 + 1 + 1 + 1 ≠ w.heap.size + 1 by omega)).trans cg8
    refine wpAnyT_one 6 rfl (by kernel_rfl) (fun K hK => ?_)
    go_simp
    refine hK.out _ _ ⟨⟨hx9, cg9⟩, trivial⟩ (fun hH9 => ?_)
    clear hK K cy fy
    try simp only [Act.put, pA9, pZ9, pS9]
    have HB9 := Lh (HB.out.trans (hO9.below (show w.heap.size ≤ w.heap.size + 1 by omega)))
    have L1 := Lh (L1.out.only hO9 (L1.out.apart_lo (by have := HL5.out; omega)))
    have L2 := Lh (L2.out.only hO9 (L2.out.apart_lo (by have := HL5.out; omega)))
    obtain ⟨w9, ew9⟩ : ∃ w9, w8.setCell ⟨w.heap.size + 1, 0, none⟩ (.int .i64 (q1 : Int)) = w9 := ⟨_, rfl⟩
    rw [ew9] at hY9 hx9 he9 HB9 hH9 L1 L2 ⊢
    have HY9 := Lh hY9
    have HE9 := Lh he9
    have ce := he9.cell 0
    have fe := he9.frozen
    clear hO9 hY9 he9 cg9 ew9 hB8 hO8 cg8
    have o10 := Only.set_ w9 (w.heap.size + 1 + 1) 0 (.int .i64 0)
    have hx10 := Lh (o10.blk hx9.out (show w.heap.size ≠ w.heap.size + 1 + 1 by omega))
    have hy10 := o10.blk HY9.out (show w.heap.size + 1 ≠ w.heap.size + 1 + 1 by omega)
    have he10 : Blk (w9.setCell ⟨w.heap.size + 1 + 1, 0, none⟩ (.int .i64 0)) (w.heap.size + 1 + 1) 47 #[.int .i64 0] := HE9.out.set_ 0 (.int .i64 0)
    have cg10 := (o10.cell (p := ⟨w.heap.size + 1 + 1 + 1 + 1, 1, none⟩) (show w.heap.size + 1 + 1 + 1 + 1 ≠ w.heap.size + 1 + 1 by omega)).trans hH9.1.2
    have HB10 := Lh (HB9.out.trans (o10.below (show w.heap.size ≤ w.heap.size + 1 + 1 by omega)))
    have L1 := Lh (L1.out.only o10 (L1.out.apart_lo (by have := HL5.out; omega)))
    have L2 := Lh (L2.out.only o10 (L2.out.apart_lo (by have := HL5.out; omega)))
    have HY10 := Lh hy10
    have HE10 := Lh he10
    refine wpAnyT_last 7 rfl (by kernel_rfl) (by decide) (fun K hK => ?_)
    go_simp
    refine hK.out _ _ ⟨hx10, cg10⟩ (fun hH10 => ?_)
    clear hK K ce fe
    try simp only [Act.put, pA9, pZ9, pS9]
    refine wpAnyT_done (by kernel_rfl) ?_ _
    obtain ⟨wf, ewf⟩ : ∃ wf, w9.setCell ⟨w.heap.size + 1 + 1, 0, none⟩ (.int .i64 0) = wf := ⟨_, rfl⟩
    rw [ewf] at hx10 HY10 HE10 HB10 L1 L2 ⊢
    clear o10 hy10 he10 cg10 hH10 ewf hH hH8 hH9 hx9 HY9 HE9 HB9 HY HE HX HB cg
    refine NoPanic.normal ?_
    go_wp2_with fail
    refine leaves_cons (f := 72) (args := #[.pointer (some ⟨w.heap.size + 1 + 1 + 1, 0, none⟩), .pointer (some ⟨w.heap.size, 0, none⟩), .pointer (some ⟨w.heap.size + 1, 0, none⟩), .pointer (some ⟨w.heap.size + 1 + 1, 0, none⟩)]) (by simp) (by simp [go_sem]) ?_
    refine (conf_returning _ _ _ _ _).mono ?_
    rintro e u' w' ⟨rfl, rfl, hw⟩
    rw [← hw]
    clear hw
    show Leaves _ _ _ _ [] .returning wf
    try rw [hr]
    exact ⟨_, res_ccc Tryz.results44 rfl rfl rfl (load_blk hx10.out Tryz.underlying27 rfl Tryz.sizeF) (load_int (HY10.out.cell 0)) (load_errno (HE10.out.cell 0)), HB10.out, ⟨_, rfl, ⟨A1, c1, A2, c2, rfl, L1.out.mono (by have := HL5.out; omega), L2.out.mono (by have := HL5.out; omega), b1, b2⟩⟩⟩
set_option maxRecDepth 100000 in
set_option maxHeartbeats 4000000 in
theorem ent_got (A : Option Addr) (n cap : Nat) (bs : List Nat) (p : Nat) (w : World) (HI : Hid (InB w A n cap bs)) (hp : p ≤ n) :
    Calls Tryz.prog 42 #[.slice A n cap, .int .i64 (p : Int), .func (.func 43) #[] #[]] w (RetG (rEnt bs p) (vEnt w.heap.size) (.agg #[.int .u64 0, .int .u64 0, .int .i64 0, .int .i64 0, .int .u64 0, .int .u64 0, .string ⟨#[]⟩, .int .i64 0, .int .u32 0, .int .u64 0, .int .u64 0, .int .i64 0, .int .i64 0, .bool false, .int .u64 0, .int .i64 0, .int .u64 0, .int .u64 0, .slice none 0 0, .slice none 0 0, .slice none 0 0]) w) := by
  have d1 : decide ((p : Int) < 0) = false := decide_eq_false (by omega)
  have d2 : decide ((p : Int) > (n : Int)) = false := decide_eq_false (by omega)
  have d3 : decide (n < p) = false := decide_eq_false (by omega)
  have hmf : ∀ (fn : Fn) (first cap : Array Value) (w : World), (Instr.makeFunc fn first cap).run Tryz.prog w = .ok (.func fn first cap) w := fun _ _ _ _ => rfl
  go_enter_defers Tryz.func42, Tryz.ntmps42
  go_wp2_with fail
  have hs := got_start w 86 #[.int .u64 0, .int .u64 0, .int .i64 0, .int .i64 0, .int .u64 0, .int .u64 0, .string ⟨#[]⟩, .int .i64 0, .int .u32 0, .int .u64 0, .int .u64 0, .int .i64 0, .int .i64 0, .bool false, .int .u64 0, .int .i64 0, .int .u64 0, .int .u64 0, .slice none 0 0, .slice none 0 0, .slice none 0 0] HI.out hp
  obtain ⟨w5, ew5⟩ : ∃ w5, ((((w.alloc (.cells #[.int .u64 0, .int .u64 0, .int .i64 0, .int .i64 0, .int .u64 0, .int .u64 0, .string ⟨#[]⟩, .int .i64 0, .int .u32 0, .int .u64 0, .int .u64 0, .int .i64 0, .int .i64 0, .bool false, .int .u64 0, .int .i64 0, .int .u64 0, .int .u64 0, .slice none 0 0, .slice none 0 0, .slice none 0 0] 86)).alloc (.cells #[.int .i64 0] 3)).alloc (.cells #[.int .i64 0] 47)).alloc (.cells #[.int .u64 0, .int .u64 0, .int .i64 0, .int .i64 0, .int .u64 0, .int .u64 0, .string ⟨#[]⟩, .int .i64 0, .int .u32 0, .int .u64 0, .int .u64 0, .int .i64 0, .int .i64 0, .bool false, .int .u64 0, .int .i64 0, .int .u64 0, .int .u64 0, .slice none 0 0, .slice none 0 0, .slice none 0 0] 86)).alloc (.cells #[.slice A n cap, .int .i64 (p : Int)] 155) = w5 := ⟨_, rfl⟩
  rw [ew5] at hs ⊢
  obtain ⟨hx, hy, he, hn, hg, hb⟩ := hs
  have HX := Lh hx
  have HY := Lh hy
  have HE := Lh he
  have HN := Lh hn
  have HB := Lh hb
  clear hx hy he hn hb ew5 hmf
  refine (pg_entry (w.heap.size + 1 + 1 + 1 + 1) A n cap bs p _ (Lh hg)).mono ?_
  have HL5 := Lh hg.blk.lt
  clear hg
  cases hr : rEnt bs p with
  | none =>
    rintro e w6 ⟨rfl, hk⟩
    have HX := Lh (hk.notBlk HX.out (by omega))
    have HY := Lh (hk.notBlk HY.out (by omega))
    have HE := Lh (hk.notBlk HE.out (by omega))
    have HN := Lh (hk.notBlk HN.out (by omega))
    have HB := Lh (HB.out.trans (hk.toBelow (B := w.heap.size) (by have := HX.out.lt; have := HB.out.size; omega) (fun k hk => by show k ≠ _; omega)))
    clear hk
    refine leaves_cons (f := 68) (args := #[.pointer (some ⟨w.heap.size + 1 + 1 + 1, 0, none⟩), .pointer (some ⟨w.heap.size, 0, none⟩), .pointer (some ⟨w.heap.size + 1, 0, none⟩), .pointer (some ⟨w.heap.size + 1 + 1, 0, none⟩)]) (by simp) (by simp [go_sem]) ?_
    refine (ent_panicking _ _ _ _ [] _ _ HN HX (Lh rfl) _ _ HY HE (by omega) (by omega)).mono ?_
    rintro e u' w7 ⟨rfl, rfl, x7, y7, e7, b7⟩
    show Leaves _ _ _ _ [] .returning w7
    exact ⟨_, res_ccc Tryz.results42 rfl rfl rfl (load_blk x7 Tryz.underlying86 rfl Tryz.sizeE) (load_int (y7.cell 0)) (load_errno (e7.cell 0)), HB.out.trans b7, rfl⟩
  | some x =>
    obtain ⟨x1, q1⟩ := x
    rintro e w6 ⟨v, rfl, ⟨A1, c1, A2, c2, A3, c3, rfl, l1, l2, l3, b1⟩, hp6, hk⟩
    have HX := Lh (hk.notBlk HX.out (by omega))
    have HY := Lh (hk.notBlk HY.out (by omega))
    have HE := Lh (hk.notBlk HE.out (by omega))
    have HB := Lh (HB.out.trans (hk.toBelow (B := w.heap.size) (by have := HX.out.lt; have := HB.out.size; omega) (fun k hk => by show k ≠ _; omega)))
    have HG := Lh hp6.blk
    have L1 := Lh l1
    clear l1
    have L2 := Lh l2
    clear l2
    have L3 := Lh l3
    clear l3
    clear hk HN hp6
    go_wp2_with (refine wpl_store_blk rfl 86 (.tmp 6) (.tmp 27) rfl w.heap.size 86 #[.int .u64 0, .int .u64 0, .int .i64 0, .int .i64 0, .int .u64 0, .int .u64 0, .string ⟨#[]⟩, .int .i64 0, .int .u32 0, .int .u64 0, .int .u64 0, .int .i64 0, .int .i64 0, .bool false, .int .u64 0, .int .i64 0, .int .u64 0, .int .u64 0, .slice none 0 0, .slice none 0 0, .slice none 0 0] _ rfl rfl HX.out rfl Tryz.sizeE rfl ?_; intro w7 hB hO)
    have HY := Lh (hO.out.blk HY.out (by omega))
    have HE := Lh (hO.out.blk HE.out (by omega))
    have HG := Lh (hO.out.blk HG.out (by omega))
    have HB := Lh (HB.out.trans (hO.out.below (Nat.le_refl _)))
    have L1 := Lh (L1.out.only hO.out (L1.out.apart_lo (by have := HL5.out; omega)))
    have L2 := Lh (L2.out.only hO.out (L2.out.apart_lo (by have := HL5.out; omega)))
    have L3 := Lh (L3.out.only hO.out (L3.out.apart_lo (by have := HL5.out; omega)))
    have cg := HG.out.cell 1
    have cg : w7.cell? ⟨w.heap.size + 1 + 1 + 1 + 1, 1, none⟩ = some (.int .i64 (q1 : Int)) := cg
    clear HG HX hO d1 d2 d3 hp
    refine wp_region_noPanic ?_
    refine wp_region_late (S0 := fun w' => Hid (Blk w' w.heap.size 86 (entCs x1 A1 c1 A2 c2 A3 c3)) ∧ w'.cell? ⟨w.heap.size + 1 + 1 + 1 + 1, 1, none⟩ = some (.int .i64 (q1 : Int))) (S := fun _ => True) 7 8 (by kernel_rfl) rfl ⟨⟨Lh hB.out.drew, cg⟩, trivial⟩ (fun wd hwd hH => ?_)
    have HY := Lh (show Blk wd _ _ _ from by rw [hwd]; exact HY.out.drew)
    have HE := Lh (show Blk wd _ _ _ from by rw [hwd]; exact HE.out.drew)
    have HB := Lh (show Below w.heap.size w wd from by rw [hwd]; exact HB.out.trans ((Below.refl _ _).drew))
    have L1 := Lh (show Lst _ _ _ _ _ _ wd from by rw [hwd]; exact ⟨L1.out.rd, L1.out.lo, L1.out.kc, L1.out.cm⟩)
    have L2 := Lh (show Lst _ _ _ _ _ _ wd from by rw [hwd]; exact ⟨L2.out.rd, L2.out.lo, L2.out.kc, L2.out.cm⟩)
    have L3 := Lh (show Lst _ _ _ _ _ _ wd from by rw [hwd]; exact ⟨L3.out.rd, L3.out.lo, L3.out.kc, L3.out.cm⟩)
    clear hwd hB cg
    refine wpAnyT_stay 0 rfl (by kernel_rfl) (fun _ _ _ h => h) (yields_load_blk rfl 86 (.tmp 6) rfl w.heap.size 86 (entCs x1 A1 c1 A2 c2 A3 c3) _ rfl (fun w' hw' => hw'.1.out) Tryz.underlying86 rfl Tryz.sizeE) ⟨hH.1, fun _ => hH.2⟩ ?_
    try simp only [Act.put, pA9, pZ9, pS9]
    refine tS 1 rfl ?_ hH ?_ ?_
    rotate_left
    · (intro wx hx; obtain ⟨_, _⟩ := hx; go_simp <;> with_reducible rfl)
    try simp only [Act.put, pA9, pZ9, pS9]
    refine tS 2 rfl ?_ hH ?_ ?_
    rotate_left
    · (intro wx hx; obtain ⟨_, _⟩ := hx; go_simp <;> with_reducible rfl)
    try simp only [Act.put, pA9, pZ9, pS9]
    refine tS 3 rfl ?_ hH ?_ ?_
    rotate_left
    · (intro wx hx; obtain ⟨_, _⟩ := hx; go_simp <;> with_reducible rfl)
    try simp only [Act.put, pA9, pZ9, pS9]
    refine tS 4 rfl ?_ hH ?_ ?_
    rotate_left
    · (intro wx hx; obtain ⟨_, _⟩ := hx; go_simp <;> with_reducible rfl)
    try simp only [Act.put, pA9, pZ9, pS9]
    refine wpAnyT_one 5 rfl (by kernel_rfl) (fun K hK => ?_)
    refine step_store_blk rfl 86 (.tmp 6) (.tmp 28) rfl w.heap.size 86 (entCs x1 A1 c1 A2 c2 A3 c3) (entCs x1 A1 c1 A2 c2 A3 c3) rfl rfl hH.1.1.out rfl Tryz.sizeE rfl ?_
    intro w8 hB8 hO8
    have HY := Lh (hO8.out.blk HY.out (by omega))
    have HE := Lh (hO8.out.blk HE.out (by omega))
    have HB := Lh (HB.out.trans (hO8.out.below (Nat.le_refl _)))
    have L1 := Lh (L1.out.only hO8.out (L1.out.apart_lo (by have := HL5.out; omega)))
    have L2 := Lh (L2.out.only hO8.out (L2.out.apart_lo (by have := HL5.out; omega)))
    have L3 := Lh (L3.out.only hO8.out (L3.out.apart_lo (by have := HL5.out; omega)))
    have cg8 := (hO8.out.cell (p := ⟨w.heap.size + 1 + 1 + 1 + 1, 1, none⟩) (show w.heap.size + 1 + 1 + 1 + 1 ≠ w.heap.size by omega)).trans hH.1.2
    refine hK.out _ _ ⟨⟨hB8, cg8⟩, trivial⟩ (fun hH8 => ?_)
    clear hK K
    try simp only [Act.put, pA9, pZ9, pS9]
    have cy := HY.out.cell 0
    have fy := HY.out.frozen
    have hY9 : Blk (w8.setCell ⟨w.heap.size + 1, 0, none⟩ (.int .i64 (q1 : Int))) (w.heap.size + 1) 3 #[.int .i64 (q1 : Int)] := HY.out.set_ 0 (.int .i64 (q1 : Int))
    have hO9 := Only.set_ w8 (w.heap.size + 1) 0 (.int .i64 (q1 : Int))
    have hx9 := Lh (hO9.blk hB8.out (show w.heap.size ≠ w.heap.size + 1 by omega))
    have he9 := hO9.blk HE.out (show w.heap.size + 1 + 1 ≠ w.heap.size + 1 by omega)
    have cg9 := (hO9.cell (p := ⟨w.heap.size + 1 + 1 + 1 + 1, 1, none⟩) (show w.heap.size + 1 + 1 + 1 + 1 ≠ w.heap.size + 1 by omega)).trans cg8
    refine wpAnyT_one 6 rfl (by kernel_rfl) (fun K hK => ?_)
    go_simp
    refine hK.out _ _ ⟨⟨hx9, cg9⟩, trivial⟩ (fun hH9 => ?_)
    clear hK K cy fy
    try simp only [Act.put, pA9, pZ9, pS9]
    have HB9 := Lh (HB.out.trans (hO9.below (show w.heap.size ≤ w.heap.size + 1 by omega)))
    have L1 := Lh (L1.out.only hO9 (L1.out.apart_lo (by have := HL5.out; omega)))
    have L2 := Lh (L2.out.only hO9 (L2.out.apart_lo (by have := HL5.out; omega)))
    have L3 := Lh (L3.out.only hO9 (L3.out.apart_lo (by have := HL5.out; omega)))
    obtain ⟨w9, ew9⟩ : ∃ w9, w8.setCell ⟨w.heap.size + 1, 0, none⟩ (.int .i64 (q1 : Int)) = w9 := ⟨_, rfl⟩
    rw [ew9] at hY9 hx9 he9 HB9 hH9 L1 L2 L3 ⊢
    have HY9 := Lh hY9
    have HE9 := Lh he9
    have ce := he9.cell 0
    have fe := he9.frozen
    clear hO9 hY9 he9 cg9 ew9 hB8 hO8 cg8
    have o10 := Only.set_ w9 (w.heap.size + 1 + 1) 0 (.int .i64 0)
    have hx10 := Lh (o10.blk hx9.out (show w.heap.size ≠ w.heap.size + 1 + 1 by omega))
    have hy10 := o10.blk HY9.out (show w.heap.size + 1 ≠ w.heap.size + 1 + 1 by omega)
    have he10 : Blk (w9.setCell ⟨w.heap.size + 1 + 1, 0, none⟩ (.int .i64 0)) (w.heap.size + 1 + 1) 47 #[.int .i64 0] := HE9.out.set_ 0 (.int .i64 0)
    have cg10 := (o10.cell (p := ⟨w.heap.size + 1 + 1 + 1 + 1, 1, none⟩) (show w.heap.size + 1 + 1 + 1 + 1 ≠ w.heap.size + 1 + 1 by omega)).trans hH9.1.2
    have HB10 := Lh (HB9.out.trans (o10.below (show w.heap.size ≤ w.heap.size + 1 + 1 by omega)))
    have L1 := Lh (L1.out.only o10 (L1.out.apart_lo (by have := HL5.out; omega)))
    have L2 := Lh (L2.out.only o10 (L2.out.apart_lo (by have := HL5.out; omega)))
    have L3 := Lh (L3.out.only o10 (L3.out.apart_lo (by have := HL5.out; omega)))
    have HY10 := Lh hy10
    have HE10 := Lh he10
    refine wpAnyT_last 7 rfl (by kernel_rfl) (by decide) (fun K hK => ?_)
    go_simp
    refine hK.out _ _ ⟨hx10, cg10⟩ (fun hH10 => ?_)
    clear hK K ce fe
    try simp only [Act.put, pA9, pZ9, pS9]
    refine wpAnyT_done (by kernel_rfl) ?_ _
    obtain ⟨wf, ewf⟩ : ∃ wf, w9.setCell ⟨w.heap.size + 1 + 1, 0, none⟩ (.int .i64 0) = wf := ⟨_, rfl⟩
    rw [ewf] at hx10 HY10 HE10 HB10 L1 L2 L3 ⊢
    clear o10 hy10 he10 cg10 hH10 ewf hH hH8 hH9 hx9 HY9 HE9 HB9 HY HE HX HB cg
    refine NoPanic.normal ?_
    go_wp2_with fail
    refine leaves_cons (f := 68) (args := #[.pointer (some ⟨w.heap.size + 1 + 1 + 1, 0, none⟩), .pointer (some ⟨w.heap.size, 0, none⟩), .pointer (some ⟨w.heap.size + 1, 0, none⟩), .pointer (some ⟨w.heap.size + 1 + 1, 0, none⟩)]) (by simp) (by simp [go_sem]) ?_
    refine (ent_returning _ _ _ _ _).mono ?_
    rintro e u' w' ⟨rfl, rfl, hw⟩
    rw [← hw]
    clear hw
    show Leaves _ _ _ _ [] .returning wf
    try rw [hr]
    exact ⟨_, res_ccc Tryz.results42 rfl rfl rfl (load_blk hx10.out Tryz.underlying86 rfl Tryz.sizeE) (load_int (HY10.out.cell 0)) (load_errno (HE10.out.cell 0)), HB10.out, ⟨_, rfl, ⟨A1, c1, A2, c2, A3, c3, rfl, L1.out.mono (by have := HL5.out; omega), L2.out.mono (by have := HL5.out; omega), L3.out.mono (by have := HL5.out; omega), b1⟩⟩⟩
end Go.Proofs.YtijdbdenmcjmmaaGreatDoor
end
