/-
  ROWS OF ENTRIES: a whole struct of a row read; an entry put; what stands at an entry's place. (printed by gen_; MESSAGES IN MEMORY; a struct stored in the middle of a block; rows of entries that grow. (joined out of PaE2, WirG1 by shake.py)
-/
import Derived.Deep.Cut
import Derived.Great.BuildSlice
import Derived.Test.YtijdbdenmcjmmaaGreatDoorNen20
import Derived.Test.YtijdbdenmcjmmaaGreatDoorNen22
section
namespace Go.Proofs.YtijdbdenmcjmmaaGreatDoor
open Go.RowKit OctMath
set_option linter.unusedVariables false
theorem Tryz.infoEnt : (Tryz.prog.info? 86).map (fun i => (i.zero.map (·.cells.size), i.size)) = some (some 21, 21) := by kernel_rfl
theorem wp_build1 {op : Oper} {a : Act} {w : World} {K : Act → World → Prop} {Q : Exit → Act → World → Prop} (x : Operand) (ho : op.op = .buildSlice 24 1 #[(0, x)]) (cs : Array Value) (hcs : cs.size = 21) (hx : a.eval x = .agg cs)
    (h : K (a.put op.dst (.slice (some ⟨w.heap.size, 0, none⟩) 1 1)) (w.alloc (.cells cs 86))) : op.wp Tryz.prog a w K Q := by
  have hi := Tryz.infoEnt
  cases q1 : Tryz.prog.info? 86 with
  | none => rw [q1] at hi; cases hi
  | some ii =>
    rw [q1] at hi
    simp only [Option.map_some, Option.some.injEq, Prod.mk.injEq] at hi
    obtain ⟨hz, q3⟩ := hi
    obtain ⟨z, q2, hzs⟩ := Option.map_eq_some_iff.1 hz
    refine wp_buildSlice 24 86 1 #[(0, x)] ho cs ii z Tryz.underlying24 q1 q2 (by rw [q3]; decide) (by rw [q3]; decide) ?_ h
    rw [q3]
    have e1 : ((#[(0, x)] : Array (Nat × Operand)).map fun (i, x) => (i, a.eval x)).toList = [(0, Value.agg cs)] := by simp [hx]
    rw [e1, ← hcs]
    exact fill_one (by omega) (by simp [hcs])
theorem em_cells {w : World} {ad : Addr} {es : List EM} (hr : ∀ j u, (es.flatMap emCs)[j]? = some u → w.cell? (ad.add j) = some u) {k : Nat} (hk : k < es.length) : ∀ j v, (emCs es[k])[j]? = some v → w.cell? ((ad.add (k * 21)).add j) = some v := by
  intro j v hv
  have hj : j < 21 := (List.getElem?_eq_some_iff.1 hv).1
  rw [Go.Deep.add_add]
  refine hr _ _ ?_
  rw [flat_get (size := 21) (fun _ => rfl) es k hk j hj]
  exact hv
def RetOB (ys : List Nat) (w : World) (e : Ending) (w' : World) : Prop := ∃ A cap, e = .returned (.slice A ys.length cap) ∧ Reads w' w'.heap.size 1 A ys.length (ys.map bv) ∧ Below w.heap.size w w' ∧ ys.length ≤ cap ∧ cap ≤ maxLen
set_option maxRecDepth 100000 in
set_option maxHeartbeats 4000000 in
theorem wrb_entry (O : Option Addr) (on oc : Nat) (xs : List Nat) (A : Option Addr) (c : Nat) (B : Option Addr) (d : Nat) (E : Option Addr) (f : Nat) (x : EntT) (w : World) (hO : Hid (Reads w w.heap.size 1 O on (xs.map bv))) (hK : Hid (Reads w w.heap.size 2 A x.cmd.mem.length (mcells x.cmd.mem))) (hJ : Hid (Reads w w.heap.size 1 B x.voters.length (x.voters.map iv))) (hI : Hid (Reads w w.heap.size 1 E x.learners.length (x.learners.map iv))) (HO : EntOk x) (hl : on + 42992040 ≤ 70000000000000) :
    Calls Tryz.prog 53 #[.slice O on oc, .agg #[.int .u64 (x.index : Int), .int .u64 (x.term : Int), .int .i64 x.kind, .int .i64 x.cmd.kind, .int .u64 (x.cmd.client : Int), .int .u64 (x.cmd.seq : Int), .string (strOf x.cmd.key), .int .i64 x.cmd.size, .int .u32 (x.cmd.sum : Int), .int .u64 (x.cmd.version : Int), .int .u64 (x.cmd.epoch : Int), .int .i64 x.cmd.group, .int .i64 x.cmd.node, .bool x.cmd.up, .int .u64 (x.cmd.id.ver : Int), .int .i64 x.cmd.id.idx, .int .u64 (x.cmd.id.ep : Int), .int .u64 (x.cmd.mep : Int), .slice A x.cmd.mem.length c, .slice B x.voters.length d, .slice E x.learners.length f], .func (.func 54) #[] #[]] w (RetOB (xs ++ pEnt x) w) := by
  have hon : xs.length = on := by simpa using hO.out.1
  have HON := Lh hon
  have hmk : ∀ W : World, (Instr.makeSlice 33 (.int .i64 0) (.int .i64 ((on : Int) + 64))).run Tryz.prog W = .ok (.slice (some ⟨W.heap.size, 0, none⟩) 0 (on + 64)) (W.alloc (.cells (madeCells #[.int .u8 0] (on + 64)) 5)) := fun W => by
    have := make0 (on + 64) (by omega) W
    rw [show ((on + 64 : Nat) : Int) = (on : Int) + 64 from by omega] at this
    exact this
  have HO := Lh HO
  obtain ⟨ys, hys⟩ : ∃ ys, xs ++ pEnt x = ys := ⟨_, rfl⟩
  have HYS := Lh hys
  rw [hys]
  clear hys
  obtain ⟨w0, ew0⟩ : ∃ w0, w.alloc (.cells #[.int .u64 (x.index : Int), .int .u64 (x.term : Int), .int .i64 x.kind, .int .i64 x.cmd.kind, .int .u64 (x.cmd.client : Int), .int .u64 (x.cmd.seq : Int), .string (strOf x.cmd.key), .int .i64 x.cmd.size, .int .u32 (x.cmd.sum : Int), .int .u64 (x.cmd.version : Int), .int .u64 (x.cmd.epoch : Int), .int .i64 x.cmd.group, .int .i64 x.cmd.node, .bool x.cmd.up, .int .u64 (x.cmd.id.ver : Int), .int .i64 x.cmd.id.idx, .int .u64 (x.cmd.id.ep : Int), .int .u64 (x.cmd.mep : Int), .slice A x.cmd.mem.length c, .slice B x.voters.length d, .slice E x.learners.length f] 86) = w0 := ⟨_, rfl⟩
  have hb : Below w.heap.size w (w.alloc (.cells #[.int .u64 (x.index : Int), .int .u64 (x.term : Int), .int .i64 x.kind, .int .i64 x.cmd.kind, .int .u64 (x.cmd.client : Int), .int .u64 (x.cmd.seq : Int), .string (strOf x.cmd.key), .int .i64 x.cmd.size, .int .u32 (x.cmd.sum : Int), .int .u64 (x.cmd.version : Int), .int .u64 (x.cmd.epoch : Int), .int .i64 x.cmd.group, .int .i64 x.cmd.node, .bool x.cmd.up, .int .u64 (x.cmd.id.ver : Int), .int .i64 x.cmd.id.idx, .int .u64 (x.cmd.id.ep : Int), .int .u64 (x.cmd.mep : Int), .slice A x.cmd.mem.length c, .slice B x.voters.length d, .slice E x.learners.length f] 86)) := (Below.refl _ _).alloc (Nat.le_refl _) _
  have hx : Blk (w.alloc (.cells #[.int .u64 (x.index : Int), .int .u64 (x.term : Int), .int .i64 x.kind, .int .i64 x.cmd.kind, .int .u64 (x.cmd.client : Int), .int .u64 (x.cmd.seq : Int), .string (strOf x.cmd.key), .int .i64 x.cmd.size, .int .u32 (x.cmd.sum : Int), .int .u64 (x.cmd.version : Int), .int .u64 (x.cmd.epoch : Int), .int .i64 x.cmd.group, .int .i64 x.cmd.node, .bool x.cmd.up, .int .u64 (x.cmd.id.ver : Int), .int .i64 x.cmd.id.idx, .int .u64 (x.cmd.id.ep : Int), .int .u64 (x.cmd.mep : Int), .slice A x.cmd.mem.length c, .slice B x.voters.length d, .slice E x.learners.length f] 86)) w.heap.size 86 #[.int .u64 (x.index : Int), .int .u64 (x.term : Int), .int .i64 x.kind, .int .i64 x.cmd.kind, .int .u64 (x.cmd.client : Int), .int .u64 (x.cmd.seq : Int), .string (strOf x.cmd.key), .int .i64 x.cmd.size, .int .u32 (x.cmd.sum : Int), .int .u64 (x.cmd.version : Int), .int .u64 (x.cmd.epoch : Int), .int .i64 x.cmd.group, .int .i64 x.cmd.node, .bool x.cmd.up, .int .u64 (x.cmd.id.ver : Int), .int .i64 x.cmd.id.idx, .int .u64 (x.cmd.id.ep : Int), .int .u64 (x.cmd.mep : Int), .slice A x.cmd.mem.length c, .slice B x.voters.length d, .slice E x.learners.length f] := Blk.new w _ _
  rw [ew0] at hb hx
  have hsz : w0.heap.size = w.heap.size + 1 := by rw [← ew0]; simp
  have HB0 := Lh hb
  have HX0 := Lh hx
  have HS0 := Lh hsz
  clear hb hx hsz hon
  go_enter Tryz.func53, Tryz.ntmps53
  go_wp2_with (first
    | (at_builtin
       refine wpl_append rfl (.tmp 11) (.tmp 12) _ rfl w0 w0.heap.size 5 _ 1 1 Tryz.underlying33 Tryz.infoU8 rfl (by decide) (.slice (some ⟨w0.heap.size, 0, none⟩) 0 (on + 64)) 0 [] rfl ?own (w0.heap.size + 1) O on oc (xs.map bv) rfl ?rd (bv_one xs) (by omega) (by decide) ?bel ?base ?_
       case own => exact World.ownsRow_made w0 _ _ (Nat.le_refl _) (by unfold maxLen; omega) (by rw [size_madeCells, Nat.mul_one])
       case rd => exact ((hO.out.later HB0.out).alloc (Nat.le_refl _) _).more (by simp)
       case bel => exact (Below.refl _ _).alloc (Nat.le_refl _) _
       case base => simp
       intro v1 w1 hh
       obtain ⟨PA, pn, pc, rfl⟩ : ∃ PA pn pc, v1 = .slice PA pn pc := (by obtain ⟨x, y, e, _⟩ := own_slice hh.out.1; exact ⟨_, _, _, e⟩)
       have h1 := hh.out.1
       have h2 := hh.out.2.1
       have h3 := hh.out.2.2
       have hbs : Below w0.heap.size w0 (w1.alloc (.cells #[.slice PA pn pc] 174)) := h2.alloc h3 _
       have hsh : Sh (fun k => k < w.heap.size) w1.heap.size xs (w1.alloc (.cells #[.slice PA pn pc] 174)) := (by
         refine ⟨⟨_, Blk.new _ _ _, ?_, fun e => by have := (h1.lt _ e).2; omega, fun k hk e => by have := (h1.lt _ e).1; have := HS0.out; omega⟩⟩
         have h := own_baseO h1 (Nat.zero_le _)
         rw [HON.out]
         simpa using h.alloc _)
       obtain ⟨w2, ew2⟩ : ∃ w2, w1.alloc (.cells #[.slice PA pn pc] 174) = w2 := ⟨_, rfl⟩
       rw [ew2] at hbs hsh
       have HX2 := Lh (HX0.out.below hbs (by have := HS0.out; omega))
       have HB4 := Lh (show Below w.heap.size w w2 from HB0.out.trans (hbs.mono (by have := HS0.out; omega)))
       have HSH := Lh hsh
       have HSF := Lh (show Safe (fun k => k < w.heap.size) w1.heap.size w2 from fun k hk => ⟨Nat.lt_of_lt_of_le hk HB4.out.size, by have := HS0.out; omega⟩)
       clear ew0 hmk h1 h2 h3 hbs hsh)
    | (refine wpl_load_blk rfl 86 (.tmp 4) rfl w.heap.size 86 _ _ rfl HX2.out Tryz.underlying86 rfl Tryz.sizeE ?_)
    | (go_at_call 54; refine (sh_entry (fun k => k < w.heap.size) w1.heap.size xs A c B d E f x w2 HSH HSF (Lh (hK.out.later HB4.out)) (Lh (fun h0 ad e => by obtain ⟨ad1, e1, h1, -⟩ := hK.out.2 h0; rw [e] at e1; injection e1 with e1; subst e1; exact h1)) (Lh (hJ.out.later HB4.out)) (Lh (fun h0 ad e => by obtain ⟨ad1, e1, h1, -⟩ := hJ.out.2 h0; rw [e] at e1; injection e1 with e1; subst e1; exact h1)) (Lh (hI.out.later HB4.out)) (Lh (fun h0 ad e => by obtain ⟨ad1, e1, h1, -⟩ := hI.out.2 h0; rw [e] at e1; injection e1 with e1; subst e1; exact h1)) HO.out (by have := HON.out; omega)).mono ?_; rintro e w3 ⟨rfl, h1, h2⟩
       rw [HYS.out] at h1
       have HK3 := Lh h2
       obtain ⟨pv, pB, pO, -, -⟩ := h1.out
       obtain ⟨A3, c3, rfl, u1, u2⟩ := own_slice pO
       have HU := Lh (And.intro u1 u2)
       have z0 := pB.cell 0
       have HR := Lh (Reads.of_own pO)
       clear h1 h2 pB pO ew2 u1 u2))
  go_ret
  refine ⟨_, _, rfl, HR.out, ?_⟩
  exact ⟨HB4.out.trans (HK3.out.toBelow HB4.out.size (fun k hk => hk)), HU.out.1, HU.out.2⟩
set_option maxRecDepth 100000 in
set_option maxHeartbeats 4000000 in
theorem putb_entry (O : Option Addr) (on oc : Nat) (xs : List Nat) (A : Option Addr) (c : Nat) (B : Option Addr) (d : Nat) (E : Option Addr) (f : Nat) (x : EntT) (w : World) (hO : Hid (Reads w w.heap.size 1 O on (xs.map bv))) (hK : Hid (Reads w w.heap.size 2 A x.cmd.mem.length (mcells x.cmd.mem))) (hJ : Hid (Reads w w.heap.size 1 B x.voters.length (x.voters.map iv))) (hI : Hid (Reads w w.heap.size 1 E x.learners.length (x.learners.map iv))) (HO : EntOk x) (hl : on + 42992040 ≤ 70000000000000) :
    Calls Tryz.prog 35 #[.slice O on oc, .agg #[.int .u64 (x.index : Int), .int .u64 (x.term : Int), .int .i64 x.kind, .int .i64 x.cmd.kind, .int .u64 (x.cmd.client : Int), .int .u64 (x.cmd.seq : Int), .string (strOf x.cmd.key), .int .i64 x.cmd.size, .int .u32 (x.cmd.sum : Int), .int .u64 (x.cmd.version : Int), .int .u64 (x.cmd.epoch : Int), .int .i64 x.cmd.group, .int .i64 x.cmd.node, .bool x.cmd.up, .int .u64 (x.cmd.id.ver : Int), .int .i64 x.cmd.id.idx, .int .u64 (x.cmd.id.ep : Int), .int .u64 (x.cmd.mep : Int), .slice A x.cmd.mem.length c, .slice B x.voters.length d, .slice E x.learners.length f]] w (RetOB (xs ++ pEnt x) w) := by
  obtain ⟨w0, ew0⟩ : ∃ w0, w.alloc (.cells #[.int .u64 (x.index : Int), .int .u64 (x.term : Int), .int .i64 x.kind, .int .i64 x.cmd.kind, .int .u64 (x.cmd.client : Int), .int .u64 (x.cmd.seq : Int), .string (strOf x.cmd.key), .int .i64 x.cmd.size, .int .u32 (x.cmd.sum : Int), .int .u64 (x.cmd.version : Int), .int .u64 (x.cmd.epoch : Int), .int .i64 x.cmd.group, .int .i64 x.cmd.node, .bool x.cmd.up, .int .u64 (x.cmd.id.ver : Int), .int .i64 x.cmd.id.idx, .int .u64 (x.cmd.id.ep : Int), .int .u64 (x.cmd.mep : Int), .slice A x.cmd.mem.length c, .slice B x.voters.length d, .slice E x.learners.length f] 86) = w0 := ⟨_, rfl⟩
  have hb : Below w.heap.size w (w.alloc (.cells #[.int .u64 (x.index : Int), .int .u64 (x.term : Int), .int .i64 x.kind, .int .i64 x.cmd.kind, .int .u64 (x.cmd.client : Int), .int .u64 (x.cmd.seq : Int), .string (strOf x.cmd.key), .int .i64 x.cmd.size, .int .u32 (x.cmd.sum : Int), .int .u64 (x.cmd.version : Int), .int .u64 (x.cmd.epoch : Int), .int .i64 x.cmd.group, .int .i64 x.cmd.node, .bool x.cmd.up, .int .u64 (x.cmd.id.ver : Int), .int .i64 x.cmd.id.idx, .int .u64 (x.cmd.id.ep : Int), .int .u64 (x.cmd.mep : Int), .slice A x.cmd.mem.length c, .slice B x.voters.length d, .slice E x.learners.length f] 86)) := (Below.refl _ _).alloc (Nat.le_refl _) _
  have hx : Blk (w.alloc (.cells #[.int .u64 (x.index : Int), .int .u64 (x.term : Int), .int .i64 x.kind, .int .i64 x.cmd.kind, .int .u64 (x.cmd.client : Int), .int .u64 (x.cmd.seq : Int), .string (strOf x.cmd.key), .int .i64 x.cmd.size, .int .u32 (x.cmd.sum : Int), .int .u64 (x.cmd.version : Int), .int .u64 (x.cmd.epoch : Int), .int .i64 x.cmd.group, .int .i64 x.cmd.node, .bool x.cmd.up, .int .u64 (x.cmd.id.ver : Int), .int .i64 x.cmd.id.idx, .int .u64 (x.cmd.id.ep : Int), .int .u64 (x.cmd.mep : Int), .slice A x.cmd.mem.length c, .slice B x.voters.length d, .slice E x.learners.length f] 86)) w.heap.size 86 #[.int .u64 (x.index : Int), .int .u64 (x.term : Int), .int .i64 x.kind, .int .i64 x.cmd.kind, .int .u64 (x.cmd.client : Int), .int .u64 (x.cmd.seq : Int), .string (strOf x.cmd.key), .int .i64 x.cmd.size, .int .u32 (x.cmd.sum : Int), .int .u64 (x.cmd.version : Int), .int .u64 (x.cmd.epoch : Int), .int .i64 x.cmd.group, .int .i64 x.cmd.node, .bool x.cmd.up, .int .u64 (x.cmd.id.ver : Int), .int .i64 x.cmd.id.idx, .int .u64 (x.cmd.id.ep : Int), .int .u64 (x.cmd.mep : Int), .slice A x.cmd.mem.length c, .slice B x.voters.length d, .slice E x.learners.length f] := Blk.new w _ _
  rw [ew0] at hb hx
  have HX0 := Lh hx
  have HB0 := Lh hb
  obtain ⟨ys, hys⟩ : ∃ ys, xs ++ pEnt x = ys := ⟨_, rfl⟩
  rw [hys]
  have HC := Lh (wrb_entry O on oc xs A c B d E f x w0 (Lh (hO.out.later hb)) (Lh (hK.out.later hb)) (Lh (hJ.out.later hb)) (Lh (hI.out.later hb)) HO hl)
  rw [hys] at HC
  clear hx hb hys
  go_enter Tryz.func35, Tryz.ntmps35
  go_wp2_with (first
    | (refine wpl_load_blk rfl 86 (.tmp 3) rfl w.heap.size 86 _ _ rfl HX0.out Tryz.underlying86 rfl Tryz.sizeE ?_)
    | (go_at_call 53; refine HC.out.mono ?_; rintro e w1 ⟨A1, c1, rfl, r1, hb1, hu1, hu2⟩; have HR := Lh (And.intro r1 hb1); have HU := Lh (And.intro hu1 hu2); clear r1 hb1 hu1 hu2))
  go_ret
  exact ⟨_, _, rfl, HR.out.1, HB0.out.trans (HR.out.2.mono HB0.out.size), HU.out.1, HU.out.2⟩
theorem byt_app {a b : List Nat} (h1 : ∀ x ∈ a, x < 256) (h2 : ∀ x ∈ b, x < 256) : ∀ x ∈ a ++ b, x < 256 := fun x hx => (List.mem_append.1 hx).elim (h1 x) (h2 x)
theorem pList_byt {α : Type} {put : α → List Nat} {l : List α} (h : ∀ x ∈ l, ∀ y ∈ put x, y < 256) : ∀ y ∈ pList put l, y < 256 := byt_app (putN_byt _) (fun y hy => by obtain ⟨x, hx, hy⟩ := List.mem_flatMap.1 hy; exact h x hx y hy)
theorem pId_byt (x : IdT) : ∀ y ∈ pId x, y < 256 := byt_app (putN_byt _) (byt_app (putN_byt _) (putN_byt _))
theorem pFlag_byt (b : Bool) : ∀ y ∈ pFlag b, y < 256 := fun y hy => by unfold pFlag at hy; rw [List.mem_singleton.1 hy]; split <;> omega
theorem pMap_byt (x : Nat × List (Int × Int)) : ∀ y ∈ pMap x, y < 256 := byt_app (putN_byt _) (pList_byt fun x _ => byt_app (putN_byt _) (putN_byt _))
theorem pConf_byt (x : List Int × List Int) : ∀ y ∈ pConf x, y < 256 := byt_app (pList_byt fun x _ => putN_byt _) (pList_byt fun x _ => putN_byt _)
theorem pCmd_byt {x : CmdT} (h : CmdOk x) : ∀ y ∈ pCmd x, y < 256 :=
  byt_app (putN_byt _) (byt_app (putN_byt _) (byt_app (putN_byt _) (byt_app (byt_app (putN_byt _) h.key.1) (byt_app (putN_byt _) (byt_app (putN_byt _) (byt_app (putN_byt _) (byt_app (putN_byt _) (byt_app (putN_byt _) (byt_app (putN_byt _) (byt_app (pFlag_byt _) (byt_app (pId_byt _) (pMap_byt _))))))))))))
theorem pEnt_byt {x : EntT} (h : EntOk x) : ∀ y ∈ pEnt x, y < 256 := byt_app (putN_byt _) (byt_app (putN_byt _) (byt_app (putN_byt _) (byt_app (pCmd_byt h.cmd) (pConf_byt _))))
def emB (es : List EM) : List Nat := es.flatMap fun m => pEnt m.x
theorem emB_take {es : List EM} {k : Nat} (hk : k < es.length) : emB (es.take (k + 1)) = emB (es.take k) ++ pEnt es[k].x := by
  unfold emB
  rw [List.take_succ_eq_append_getElem hk, List.flatMap_append]
  simp
end Go.Proofs.YtijdbdenmcjmmaaGreatDoor
end
section
namespace Go.Proofs.YtijdbdenmcjmmaaGreatDoor
open Go.RowKit OctMath
set_option linter.unusedVariables false
set_option linter.unusedSimpArgs false
/-! ### Rows of entries -/
def LO (lo : Nat) (v : Value) (size : Nat) (A : Option Addr) (c k : Nat) (xs : List Value) (w : World) : Prop := Lst lo size A c k xs w ∧ Off v k A
theorem LO.grown {lo size c k : Nat} {v v' : Value} {A : Option Addr} {xs : List Value} {w w' : World} (h : LO lo v size A c k xs w) (hg : w.grownBy w' v.ownBlock) (hv : v'.ownBlock = v.ownBlock ∨ v'.ownBlock = some w.heap.size) : LO lo v' size A c k xs w' := by
  obtain ⟨h1, h2⟩ := h
  refine ⟨⟨⟨h1.rd.1, fun hn => ?_⟩, h1.lo, h1.kc, h1.cm⟩, fun hn ad e => ?_⟩
  · obtain ⟨ad, e, hb, hc⟩ := h1.rd.2 hn
    refine ⟨ad, e, by have := hg.size; omega, fun j u hu => ?_⟩
    rw [← hc j u hu]
    refine World.cell?_of_block ?_
    rw [block_of_add]
    exact hg.block _ hb (fun e' => h2 hn ad e e'.symm)
  · have := h1.lt hn e
    rcases hv with hv | hv
    · rw [hv]; exact h2 hn ad e
    · rw [hv]; intro e'; injection e' with e'; omega
theorem LO.keep {lo size c k g : Nat} {v : Value} {A : Option Addr} {xs : List Value} {w w' : World} (h : LO lo v size A c k xs w) (hk : Keep (Not g) w w') (hg : g < lo) : LO lo v size A c k xs w' := ⟨h.1.keep hk hg, h.2⟩
theorem LO.only {lo size c k y : Nat} {v : Value} {A : Option Addr} {xs : List Value} {w w' : World} (h : LO lo v size A c k xs w) (ho : Only y w w') (hy : y < lo) : LO lo v size A c k xs w' := ⟨h.1.only ho (h.1.apart_lo hy), h.2⟩
theorem LO.below {lo size c k : Nat} {v : Value} {A : Option Addr} {xs : List Value} {w w' : World} (h : LO lo v size A c k xs w) (hb : Below w.heap.size w w') : LO lo v size A c k xs w' := ⟨h.1.below hb, h.2⟩
structure SubE (lo : Nat) (v : Value) (m : EM) (w : World) : Prop where
  l1 : LO lo v 2 m.A m.c m.x.cmd.mem.length (mcells m.x.cmd.mem) w
  l2 : LO lo v 1 m.B m.d m.x.voters.length (m.x.voters.map iv) w
  l3 : LO lo v 1 m.E m.f m.x.learners.length (m.x.learners.map iv) w
  ok : EntOk m.x
def Ens (lo : Nat) (v : Value) (ms : List EM) (w : World) : Prop := ∀ m ∈ ms, SubE lo v m w
theorem Ens.nil (lo : Nat) (v : Value) (w : World) : Ens lo v [] w := fun m h => by cases h
theorem Ens.grown {lo : Nat} {v v' : Value} {ms : List EM} {w w' : World} (h : Ens lo v ms w) (hg : w.grownBy w' v.ownBlock) (hv : v'.ownBlock = v.ownBlock ∨ v'.ownBlock = some w.heap.size) : Ens lo v' ms w' := fun m hm => ⟨(h m hm).l1.grown hg hv, (h m hm).l2.grown hg hv, (h m hm).l3.grown hg hv, (h m hm).ok⟩
theorem Ens.keep {lo g : Nat} {v : Value} {ms : List EM} {w w' : World} (h : Ens lo v ms w) (hk : Keep (Not g) w w') (hg : g < lo) : Ens lo v ms w' := fun m hm => ⟨(h m hm).l1.keep hk hg, (h m hm).l2.keep hk hg, (h m hm).l3.keep hk hg, (h m hm).ok⟩
theorem Ens.only {lo y : Nat} {v : Value} {ms : List EM} {w w' : World} (h : Ens lo v ms w) (ho : Only y w w') (hy : y < lo) : Ens lo v ms w' := fun m hm => ⟨(h m hm).l1.only ho hy, (h m hm).l2.only ho hy, (h m hm).l3.only ho hy, (h m hm).ok⟩
theorem Ens.below {lo : Nat} {v : Value} {ms : List EM} {w w' : World} (h : Ens lo v ms w) (hb : Below w.heap.size w w') : Ens lo v ms w' := fun m hm => ⟨(h m hm).l1.below hb, (h m hm).l2.below hb, (h m hm).l3.below hb, (h m hm).ok⟩
theorem Ens.add {lo : Nat} {v : Value} {ms : List EM} {m : EM} {w : World} (h : Ens lo v ms w) (hm : SubE lo v m w) : Ens lo v (ms ++ [m]) w := fun x hx => by
  rcases List.mem_append.1 hx with hx | hx
  · exact h x hx
  · rw [List.mem_singleton.1 hx]; exact hm
theorem sub_of_ent {lo lo2 : Nat} {v u : Value} {x : EntT} {w : World} (h : vEnt lo2 x w u) (hl : lo ≤ lo2) (hv : ∀ k, v.ownBlock = some k → k < lo2) : ∃ m : EM, m.x = x ∧ u = .agg (emCs m).toArray ∧ SubE lo v m w := by
  obtain ⟨A1, c1, A2, c2, A3, c3, rfl, l1, l2, l3, hok⟩ := h
  have off : ∀ {size c k : Nat} {A : Option Addr} {xs : List Value}, Lst lo2 size A c k xs w → Off v k A := fun l h0 ad e e' => by have := l.lo h0 ad e; have := hv _ e'; omega
  exact ⟨⟨x, A1, c1, A2, c2, A3, c3⟩, rfl, rfl, ⟨l1.mono hl, off l1⟩, ⟨l2.mono hl, off l2⟩, ⟨l3.mono hl, off l3⟩, hok⟩
theorem CmdOk.w {x : CmdT} (h : CmdOk x) : CmdW x := ⟨h.kind, h.client, h.seq, h.key.1, h.size, h.sum, h.version, h.epoch, h.group, h.node, h.id, h.map.1, h.map.2.1⟩
theorem EntOk.w {x : EntT} (h : EntOk x) : EntW x := ⟨h.index, h.term, h.kind, h.cmd.w, h.vot.1, h.lea.1⟩
theorem SubE.in_ {lo : Nat} {v : Value} {m : EM} {w : World} (h : SubE lo v m w) : EmIn w m := ⟨h.l1.1.rd, h.l2.1.rd, h.l3.1.rd, h.ok.w⟩
theorem Tryz.infoEnB : (Tryz.prog.info? 86).map (fun i => (i.zero.map (·.cells.size), i.size, i.bytes)) = some (some 21, 21, 224) := by kernel_rfl
theorem Tryz.infoStr : (Tryz.prog.info? 9).map (fun i => (i.zero.map (·.cells.size), i.size, i.bytes)) = some (some 1, 1, 16) := by kernel_rfl
theorem info_parts' {P : Program} {e : TypeId} {k size bytes : Nat} (h : (P.info? e).map (fun i => (i.zero.map (·.cells.size), i.size, i.bytes)) = some (some k, size, bytes)) : ∃ i z, P.info? e = some i ∧ i.zero = some z ∧ z.cells.size = k ∧ i.size = size ∧ i.bytes = bytes := by
  cases q : P.info? e with
  | none => rw [q] at h; cases h
  | some i =>
    rw [q] at h
    simp only [Option.map_some, Option.some.injEq, Prod.mk.injEq] at h
    obtain ⟨h1, h2, h3⟩ := h
    obtain ⟨z, q2, hz⟩ := Option.map_eq_some_iff.1 h1
    exact ⟨i, z, rfl, q2, hz, h2, h3⟩
theorem own_keep {w w' : World} {base size n g : Nat} {t : TypeId} {v : Value} {xs : List Value} (h : w.ownsRow base t size v n xs) (hk : Keep (Not g) w w') (hg : g < base) : w'.ownsRow base t size v n xs :=
  h.kept (row := some g) ⟨hk.os, hk.tape, hk.output, hk.size, fun b hb hne => hk.block b (fun e => hne (by rw [e])) hb⟩ (.inr (own_apart h hg))
theorem own_lt {w : World} {base size n : Nat} {t : TypeId} {v : Value} {xs : List Value} (h : w.ownsRow base t size v n xs) {k : Nat} (e : v.ownBlock = some k) : base ≤ k ∧ k < w.heap.size := ⟨(h.lt k e).1, (h.lt k e).2⟩
/-! ### Messages in memory -/
structure MG where
  x : MsgT
  es : List EM
  Ae : Option Addr
  ce : Nat
  Av : Option Addr
  cv : Nat
  Al : Option Addr
  cl : Nat
  Ad : Option Addr
  cd : Nat
  An : Option Addr
  cn : Nat
def mgA (x : MsgT) (ne : Nat) (Ae : Option Addr) (ce : Nat) (Av : Option Addr) (cv : Nat) (Al : Option Addr) (cl : Nat) (Ad : Option Addr) (cd : Nat) (An : Option Addr) (cn : Nat) : Array Value :=
  #[.int .i64 x.kind, .int .i64 x.from_, .int .i64 x.to_, .int .u64 (x.term : Int), .int .u64 (x.index : Int), .int .u64 (x.logTerm : Int), .int .u64 (x.commit : Int), .int .u64 (x.ctx : Int), .bool x.okf, .bool x.force,
    .slice Ae ne ce, .slice Av x.vot.length cv, .slice Al x.lea.length cl, .int .u64 (x.head.id.ver : Int), .int .i64 x.head.id.idx, .int .u64 (x.head.id.ep : Int), .int .i64 x.head.k, .int .i64 x.head.n, .int .i64 x.head.size, .int .u32 (x.head.sum : Int),
    .slice Ad x.data.length cd, .int .u64 (x.client : Int), .int .u64 (x.seq : Int), .int .i64 x.op, .string (strOf x.key), .int .i64 x.code, .slice An x.names.length cn]
def mgCs (m : MG) : Array Value := mgA m.x m.es.length m.Ae m.ce m.Av m.cv m.Al m.cl m.Ad m.cd m.An m.cn
structure MsgW (x : MsgT) : Prop where
  kind : I64 x.kind
  from_ : I64 x.from_
  to_ : I64 x.to_
  term : x.term < 18446744073709551616
  index : x.index < 18446744073709551616
  logTerm : x.logTerm < 18446744073709551616
  commit : x.commit < 18446744073709551616
  ctx : x.ctx < 18446744073709551616
  ents : ∀ y ∈ x.ents, EntW y
  vot : ∀ y ∈ x.vot, I64 y
  lea : ∀ y ∈ x.lea, I64 y
  head : HdOk x.head
  data : Byt x.data
  client : x.client < 18446744073709551616
  seq : x.seq < 18446744073709551616
  op : I64 x.op
  key : Byt x.key
  code : I64 x.code
  names : ∀ y ∈ x.names, Byt y
def stv (s : List Nat) : Value := .string (strOf s)
structure MgIn (w : World) (m : MG) : Prop where
  ents : Reads w w.heap.size 21 m.Ae m.es.length (m.es.flatMap emCs)
  each : ∀ e ∈ m.es, EmIn w e
  eq : m.x.ents = m.es.map (·.x)
  vot : Reads w w.heap.size 1 m.Av m.x.vot.length (m.x.vot.map iv)
  lea : Reads w w.heap.size 1 m.Al m.x.lea.length (m.x.lea.map iv)
  data : Reads w w.heap.size 1 m.Ad m.x.data.length (m.x.data.map bv)
  names : Reads w w.heap.size 1 m.An m.x.names.length (m.x.names.map stv)
  ok : MsgW m.x
end Go.Proofs.YtijdbdenmcjmmaaGreatDoor
end
