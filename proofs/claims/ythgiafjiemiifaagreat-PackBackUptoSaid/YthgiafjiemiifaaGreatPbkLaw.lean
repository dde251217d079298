/-
  PackBack holds for every bytes, command, entry and state of at most 1048576 values and letters: what is put is read again, whatever stands ahead and behind.
-/
import Derived.Deep.Cut
import Derived.Test.YthgiafjiemiifaaGreatPbk42
import Derived.Test.YthgiafjiemiifaaGreatPbk30
import Derived.Test.YthgiafjiemiifaaGreatPbk32
import Derived.Test.YthgiafjiemiifaaGreatPbk24
namespace Go.Proofs.YthgiafjiemiifaaGreat
open Go.RowKit OctMath
set_option linter.unusedVariables false
set_option linter.unusedSimpArgs false
theorem len_app (a b : List Nat) : a.length ≤ (a ++ b).length := by rw [List.length_append]; omega
theorem pObj_byt {x : ObjT} (h : ObjOk x) : ∀ y ∈ pObj x, y < 256 := byt_app (byt_app (putN_byt _) h.key.1) (byt_app (putN_byt _) (byt_app (putN_byt _) (byt_app (putN_byt _) (byt_app (putN_byt _) (byt_app (putN_byt _) (pList_byt fun x _ => putN_byt _))))))
theorem pIntent_byt {x : IntT} (h : InteOk x) : ∀ y ∈ pIntent x, y < 256 := byt_app (pObj_byt h.obj) (byt_app (putN_byt _) (putN_byt _))
theorem pSes_byt (x : SesT) : ∀ y ∈ pSes x, y < 256 := byt_app (putN_byt _) (byt_app (putN_byt _) (byt_app (pFlag_byt _) (byt_app (putN_byt _) (putN_byt _))))
theorem pWas_byt (x : WasT) : ∀ y ∈ pWas x, y < 256 := byt_app (pId_byt _) (putN_byt _)
theorem pMet_byt {x : MetT} (h : MetOk x) : ∀ y ∈ pMet x, y < 256 := byt_app (putN_byt _) (byt_app (putN_byt _) (byt_app (putN_byt _) (byt_app (pMap_byt _) (byt_app (pMap_byt _) (byt_app (pList_byt fun x _ => putN_byt _) (byt_app (pList_byt fun x hx => pObj_byt (h.objs.1 x hx)) (byt_app (pList_byt fun x hx => pIntent_byt (h.ints.1 x hx)) (byt_app (pList_byt fun x _ => pSes_byt x) (byt_app (pList_byt fun x _ => pWas_byt x) (byt_app (pList_byt fun x _ => putN_byt _) (putN_byt _)))))))))))
theorem MetW.ok {m : MM} (h : MetW m.x) (eo : m.os.map (·.x) = m.x.objs) (ei : m.is.map (·.x) = m.x.ints) (h1 : m.x.mem.length ≤ 1048576) (h2 : m.x.nem.length ≤ 1048576) (h3 : m.x.cut.length ≤ 1048576) (h4 : ∀ o ∈ m.os, o.x.key.length ≤ 1000000 ∧ o.x.nodes.length ≤ 100000) (h5 : m.x.objs.length ≤ 1048576) (h6 : ∀ o ∈ m.is, o.x.obj.key.length ≤ 1000000 ∧ o.x.obj.nodes.length ≤ 100000) (h7 : m.x.ints.length ≤ 1048576) (h8 : m.x.sess.length ≤ 1048576) (h9 : m.x.wass.length ≤ 1048576) (h10 : m.x.down.length ≤ 1048576) : MetOk m.x := by
  refine ⟨h.k, h.n, h.groups, ⟨h.mep, h.mem, h1⟩, ⟨h.nep, h.nem, h2⟩, ⟨h.cut, h3⟩, ⟨fun y hy => ?_, h5⟩, ⟨fun y hy => ?_, h7⟩, ⟨h.sess, h8⟩, ⟨h.wass, h9⟩, ⟨h.down, h10⟩, h.last⟩
  · have hw := h.objs y hy
    rw [← eo] at hy
    obtain ⟨o, ho, rfl⟩ := List.mem_map.1 hy
    have := h4 o ho
    exact hw.ok (by omega) (by omega)
  · have hw := h.ints y hy
    rw [← ei] at hy
    obtain ⟨o, ho, rfl⟩ := List.mem_map.1 hy
    have := h6 o ho
    exact ⟨hw.obj.ok (by omega) (by omega), hw.client, hw.seq⟩
/-- Bytes that are answered, told with their number. -/
def RO (n : Nat) (ys : List Nat) (w : World) (e : Ending) (w' : World) : Prop := ∃ A c, e = .returned (.slice A n c) ∧ Reads w' w'.heap.size 1 A n (ys.map bv) ∧ Below w.heap.size w w'
theorem ro_of {n : Nat} {ys : List Nat} {w w' : World} {e : Ending} (hn : ys.length = n) (h : RetO ys w e w') : RO n ys w e w' := by rw [← hn]; exact h
theorem wpl_wanted {P : Program} {ops : Array Oper} {Q : Exit → Act → World → Prop} {rest : List Oper} {o : Oper} {a : Act} {w : World} (hw : Region.wanted o (yielded ops a.tmps) = true) (h : o.wp P a w (wpList P ops Q rest) Q) : wpList P ops Q (o :: rest) a w := by
  unfold wpList
  rw [if_pos hw]
  exact .inl h
theorem wp_load_blk' {P : Program} {op : Oper} {a : Act} {w : World} {K : Act → World → Prop} {Q : Exit → Act → World → Prop} (ty : TypeId) (x : Operand) (ho : op.op = .load ty x)
    (g : Nat) (t : TypeId) (cs : Array Value) (d : TypeDesc) (hx : a.eval x = .pointer (some ⟨g, 0, none⟩)) (hB : Blk w g t cs) (hu : P.underlying ty = some d) (hd : d.isRow = true) (hi : (P.info? ty).map (·.size) = some cs.size)
    (h : K (a.put op.dst (.agg cs)) w) : op.wp P a w K Q :=
  wp_load_mid ty x ho g 0 hx cs.toList d (fun j v hv => by rw [Nat.zero_add, hB.cell]; simpa using hv) hu hd (by simpa using hi) (by simpa using h)
theorem fold_max (P : Program) (W : World) : ∀ (l : List Int) (x : Int), ((l.map (Value.int .i64)).foldlM Builtin.max2 (.int .i64 x)).run P W = .ok (.int .i64 (l.foldl (fun a b => if b > a then b else a) x)) W
  | [], x => rfl
  | y :: l, x => by
    rw [List.map_cons, List.foldlM_cons, Sem.run_bind]
    show ((pure (.int .i64 (if y > x then y else x)) : Sem Value).run P W).andThen _ = _
    rw [Sem.run_pure, Result.andThen_ok]
    exact fold_max P W l _
theorem fold_ge : ∀ (l : List Int) (x : Int), x ≤ l.foldl (fun a b => if b > a then b else a) x ∧ ∀ y ∈ l, y ≤ l.foldl (fun a b => if b > a then b else a) x
  | [], x => ⟨Int.le_refl _, fun y h => (by cases h)⟩
  | z :: l, x => by
    obtain ⟨h1, h2⟩ := fold_ge l (if z > x then z else x)
    have h3 : x ≤ (if z > x then z else x) ∧ z ≤ (if z > x then z else x) := by split <;> omega
    refine ⟨Int.le_trans h3.1 h1, fun y hy => ?_⟩
    rcases List.mem_cons.1 hy with rfl | hy
    · exact Int.le_trans h3.2 h1
    · exact h2 y hy
theorem max8 (P : Program) (a b c d e f g h : Int) : ∃ mx : Int, (a ≤ mx ∧ b ≤ mx ∧ c ≤ mx ∧ d ≤ mx ∧ e ≤ mx ∧ f ≤ mx ∧ g ≤ mx ∧ h ≤ mx) ∧ ∀ (ts : Array TypeId) (t : TypeId) (W : World), (Builtin.max_ ts t #[.int .i64 a, .int .i64 b, .int .i64 c, .int .i64 d, .int .i64 e, .int .i64 f, .int .i64 g, .int .i64 h]).run P W = .ok (.int .i64 mx) W := by
  refine ⟨[b, c, d, e, f, g, h].foldl (fun a b => if b > a then b else a) a, ?_, fun ts t W => fold_max P W [b, c, d, e, f, g, h] a⟩
  obtain ⟨h1, h2⟩ := fold_ge [b, c, d, e, f, g, h] a
  exact ⟨h1, h2 b (by simp), h2 c (by simp), h2 d (by simp), h2 e (by simp), h2 f (by simp), h2 g (by simp), h2 h (by simp)⟩
set_option maxRecDepth 100000 in
set_option maxHeartbeats 16000000 in
theorem back_any (O : Option Addr) (on oc : Nat) (xs : List Nat) (CA : Option Addr) (cc : Nat) (cx : CmdT) (em : EM) (m : MM) (D : Option Addr) (dn dc : Nat) (zs : List Nat) (w : World) (hO : Hid (Reads w w.heap.size 1 O on (xs.map bv))) (bO : Hid (on ≤ 1048576)) (yO : Hid (Byt xs)) (hC : Hid (Reads w w.heap.size 2 CA cx.mem.length (mcells cx.mem))) (wC : Hid (CmdW cx)) (hE : Hid (EmIn w em)) (hM : Hid (MetR m w)) (wM : Hid (MetW m.x)) (hD : Hid (Reads w w.heap.size 1 D dn (zs.map bv))) (bD : Hid (dn ≤ 1048576)) (yD : Hid (Byt zs)) :
    Calls Tryz.prog 4 #[.slice O on oc, .agg #[.int .i64 cx.kind, .int .u64 (cx.client : Int), .int .u64 (cx.seq : Int), .string (strOf cx.key), .int .i64 cx.size, .int .u32 (cx.sum : Int), .int .u64 (cx.version : Int), .int .u64 (cx.epoch : Int), .int .i64 cx.group, .int .i64 cx.node, .bool cx.up, .int .u64 (cx.id.ver : Int), .int .i64 cx.id.idx, .int .u64 (cx.id.ep : Int), .int .u64 (cx.mep : Int), .slice CA cx.mem.length cc], .agg #[.int .u64 (em.x.index : Int), .int .u64 (em.x.term : Int), .int .i64 em.x.kind, .int .i64 em.x.cmd.kind, .int .u64 (em.x.cmd.client : Int), .int .u64 (em.x.cmd.seq : Int), .string (strOf em.x.cmd.key), .int .i64 em.x.cmd.size, .int .u32 (em.x.cmd.sum : Int), .int .u64 (em.x.cmd.version : Int), .int .u64 (em.x.cmd.epoch : Int), .int .i64 em.x.cmd.group, .int .i64 em.x.cmd.node, .bool em.x.cmd.up, .int .u64 (em.x.cmd.id.ver : Int), .int .i64 em.x.cmd.id.idx, .int .u64 (em.x.cmd.id.ep : Int), .int .u64 (em.x.cmd.mep : Int), .slice em.A em.x.cmd.mem.length em.c, .slice em.B em.x.voters.length em.d, .slice em.E em.x.learners.length em.f], .agg #[.int .i64 m.x.k, .int .i64 m.x.n, .int .i64 m.x.groups, .int .u64 (m.x.mep : Int), .slice m.MA m.x.mem.length m.mc, .int .u64 (m.x.nep : Int), .slice m.NA m.x.nem.length m.nc, .slice m.CA m.x.cut.length m.cc, .slice m.OA m.x.objs.length m.oc, .slice m.IA m.x.ints.length m.ic, .slice m.SA m.x.sess.length m.sc, .slice m.WA m.x.wass.length m.wc, .slice m.DA m.x.down.length m.dc, .int .u64 (m.x.last : Int)], .slice D dn dc] w fun e w' => e = .returned (.bool true) ∧ Below w.heap.size w w' := by
  obtain ⟨b0, hb0⟩ : ∃ b0, w.heap.size = b0 := ⟨_, rfl⟩
  have hx : Blk (((w.alloc (.cells #[.int .i64 cx.kind, .int .u64 (cx.client : Int), .int .u64 (cx.seq : Int), .string (strOf cx.key), .int .i64 cx.size, .int .u32 (cx.sum : Int), .int .u64 (cx.version : Int), .int .u64 (cx.epoch : Int), .int .i64 cx.group, .int .i64 cx.node, .bool cx.up, .int .u64 (cx.id.ver : Int), .int .i64 cx.id.idx, .int .u64 (cx.id.ep : Int), .int .u64 (cx.mep : Int), .slice CA cx.mem.length cc] 33)).alloc (.cells #[.int .u64 (em.x.index : Int), .int .u64 (em.x.term : Int), .int .i64 em.x.kind, .int .i64 em.x.cmd.kind, .int .u64 (em.x.cmd.client : Int), .int .u64 (em.x.cmd.seq : Int), .string (strOf em.x.cmd.key), .int .i64 em.x.cmd.size, .int .u32 (em.x.cmd.sum : Int), .int .u64 (em.x.cmd.version : Int), .int .u64 (em.x.cmd.epoch : Int), .int .i64 em.x.cmd.group, .int .i64 em.x.cmd.node, .bool em.x.cmd.up, .int .u64 (em.x.cmd.id.ver : Int), .int .i64 em.x.cmd.id.idx, .int .u64 (em.x.cmd.id.ep : Int), .int .u64 (em.x.cmd.mep : Int), .slice em.A em.x.cmd.mem.length em.c, .slice em.B em.x.voters.length em.d, .slice em.E em.x.learners.length em.f] 38)).alloc (.cells #[.int .i64 m.x.k, .int .i64 m.x.n, .int .i64 m.x.groups, .int .u64 (m.x.mep : Int), .slice m.MA m.x.mem.length m.mc, .int .u64 (m.x.nep : Int), .slice m.NA m.x.nem.length m.nc, .slice m.CA m.x.cut.length m.cc, .slice m.OA m.x.objs.length m.oc, .slice m.IA m.x.ints.length m.ic, .slice m.SA m.x.sess.length m.sc, .slice m.WA m.x.wass.length m.wc, .slice m.DA m.x.down.length m.dc, .int .u64 (m.x.last : Int)] 53)) w.heap.size 33 #[.int .i64 cx.kind, .int .u64 (cx.client : Int), .int .u64 (cx.seq : Int), .string (strOf cx.key), .int .i64 cx.size, .int .u32 (cx.sum : Int), .int .u64 (cx.version : Int), .int .u64 (cx.epoch : Int), .int .i64 cx.group, .int .i64 cx.node, .bool cx.up, .int .u64 (cx.id.ver : Int), .int .i64 cx.id.idx, .int .u64 (cx.id.ep : Int), .int .u64 (cx.mep : Int), .slice CA cx.mem.length cc] := ((Blk.new w 33 #[.int .i64 cx.kind, .int .u64 (cx.client : Int), .int .u64 (cx.seq : Int), .string (strOf cx.key), .int .i64 cx.size, .int .u32 (cx.sum : Int), .int .u64 (cx.version : Int), .int .u64 (cx.epoch : Int), .int .i64 cx.group, .int .i64 cx.node, .bool cx.up, .int .u64 (cx.id.ver : Int), .int .i64 cx.id.idx, .int .u64 (cx.id.ep : Int), .int .u64 (cx.mep : Int), .slice CA cx.mem.length cc]).alloc _).alloc _
  have hy : Blk (((w.alloc (.cells #[.int .i64 cx.kind, .int .u64 (cx.client : Int), .int .u64 (cx.seq : Int), .string (strOf cx.key), .int .i64 cx.size, .int .u32 (cx.sum : Int), .int .u64 (cx.version : Int), .int .u64 (cx.epoch : Int), .int .i64 cx.group, .int .i64 cx.node, .bool cx.up, .int .u64 (cx.id.ver : Int), .int .i64 cx.id.idx, .int .u64 (cx.id.ep : Int), .int .u64 (cx.mep : Int), .slice CA cx.mem.length cc] 33)).alloc (.cells #[.int .u64 (em.x.index : Int), .int .u64 (em.x.term : Int), .int .i64 em.x.kind, .int .i64 em.x.cmd.kind, .int .u64 (em.x.cmd.client : Int), .int .u64 (em.x.cmd.seq : Int), .string (strOf em.x.cmd.key), .int .i64 em.x.cmd.size, .int .u32 (em.x.cmd.sum : Int), .int .u64 (em.x.cmd.version : Int), .int .u64 (em.x.cmd.epoch : Int), .int .i64 em.x.cmd.group, .int .i64 em.x.cmd.node, .bool em.x.cmd.up, .int .u64 (em.x.cmd.id.ver : Int), .int .i64 em.x.cmd.id.idx, .int .u64 (em.x.cmd.id.ep : Int), .int .u64 (em.x.cmd.mep : Int), .slice em.A em.x.cmd.mem.length em.c, .slice em.B em.x.voters.length em.d, .slice em.E em.x.learners.length em.f] 38)).alloc (.cells #[.int .i64 m.x.k, .int .i64 m.x.n, .int .i64 m.x.groups, .int .u64 (m.x.mep : Int), .slice m.MA m.x.mem.length m.mc, .int .u64 (m.x.nep : Int), .slice m.NA m.x.nem.length m.nc, .slice m.CA m.x.cut.length m.cc, .slice m.OA m.x.objs.length m.oc, .slice m.IA m.x.ints.length m.ic, .slice m.SA m.x.sess.length m.sc, .slice m.WA m.x.wass.length m.wc, .slice m.DA m.x.down.length m.dc, .int .u64 (m.x.last : Int)] 53)) (w.heap.size + 1) 38 #[.int .u64 (em.x.index : Int), .int .u64 (em.x.term : Int), .int .i64 em.x.kind, .int .i64 em.x.cmd.kind, .int .u64 (em.x.cmd.client : Int), .int .u64 (em.x.cmd.seq : Int), .string (strOf em.x.cmd.key), .int .i64 em.x.cmd.size, .int .u32 (em.x.cmd.sum : Int), .int .u64 (em.x.cmd.version : Int), .int .u64 (em.x.cmd.epoch : Int), .int .i64 em.x.cmd.group, .int .i64 em.x.cmd.node, .bool em.x.cmd.up, .int .u64 (em.x.cmd.id.ver : Int), .int .i64 em.x.cmd.id.idx, .int .u64 (em.x.cmd.id.ep : Int), .int .u64 (em.x.cmd.mep : Int), .slice em.A em.x.cmd.mem.length em.c, .slice em.B em.x.voters.length em.d, .slice em.E em.x.learners.length em.f] := by have := (Blk.new (w.alloc (.cells #[.int .i64 cx.kind, .int .u64 (cx.client : Int), .int .u64 (cx.seq : Int), .string (strOf cx.key), .int .i64 cx.size, .int .u32 (cx.sum : Int), .int .u64 (cx.version : Int), .int .u64 (cx.epoch : Int), .int .i64 cx.group, .int .i64 cx.node, .bool cx.up, .int .u64 (cx.id.ver : Int), .int .i64 cx.id.idx, .int .u64 (cx.id.ep : Int), .int .u64 (cx.mep : Int), .slice CA cx.mem.length cc] 33)) 38 #[.int .u64 (em.x.index : Int), .int .u64 (em.x.term : Int), .int .i64 em.x.kind, .int .i64 em.x.cmd.kind, .int .u64 (em.x.cmd.client : Int), .int .u64 (em.x.cmd.seq : Int), .string (strOf em.x.cmd.key), .int .i64 em.x.cmd.size, .int .u32 (em.x.cmd.sum : Int), .int .u64 (em.x.cmd.version : Int), .int .u64 (em.x.cmd.epoch : Int), .int .i64 em.x.cmd.group, .int .i64 em.x.cmd.node, .bool em.x.cmd.up, .int .u64 (em.x.cmd.id.ver : Int), .int .i64 em.x.cmd.id.idx, .int .u64 (em.x.cmd.id.ep : Int), .int .u64 (em.x.cmd.mep : Int), .slice em.A em.x.cmd.mem.length em.c, .slice em.B em.x.voters.length em.d, .slice em.E em.x.learners.length em.f]).alloc (.cells #[.int .i64 m.x.k, .int .i64 m.x.n, .int .i64 m.x.groups, .int .u64 (m.x.mep : Int), .slice m.MA m.x.mem.length m.mc, .int .u64 (m.x.nep : Int), .slice m.NA m.x.nem.length m.nc, .slice m.CA m.x.cut.length m.cc, .slice m.OA m.x.objs.length m.oc, .slice m.IA m.x.ints.length m.ic, .slice m.SA m.x.sess.length m.sc, .slice m.WA m.x.wass.length m.wc, .slice m.DA m.x.down.length m.dc, .int .u64 (m.x.last : Int)] 53); simpa using this
  have hz : Blk (((w.alloc (.cells #[.int .i64 cx.kind, .int .u64 (cx.client : Int), .int .u64 (cx.seq : Int), .string (strOf cx.key), .int .i64 cx.size, .int .u32 (cx.sum : Int), .int .u64 (cx.version : Int), .int .u64 (cx.epoch : Int), .int .i64 cx.group, .int .i64 cx.node, .bool cx.up, .int .u64 (cx.id.ver : Int), .int .i64 cx.id.idx, .int .u64 (cx.id.ep : Int), .int .u64 (cx.mep : Int), .slice CA cx.mem.length cc] 33)).alloc (.cells #[.int .u64 (em.x.index : Int), .int .u64 (em.x.term : Int), .int .i64 em.x.kind, .int .i64 em.x.cmd.kind, .int .u64 (em.x.cmd.client : Int), .int .u64 (em.x.cmd.seq : Int), .string (strOf em.x.cmd.key), .int .i64 em.x.cmd.size, .int .u32 (em.x.cmd.sum : Int), .int .u64 (em.x.cmd.version : Int), .int .u64 (em.x.cmd.epoch : Int), .int .i64 em.x.cmd.group, .int .i64 em.x.cmd.node, .bool em.x.cmd.up, .int .u64 (em.x.cmd.id.ver : Int), .int .i64 em.x.cmd.id.idx, .int .u64 (em.x.cmd.id.ep : Int), .int .u64 (em.x.cmd.mep : Int), .slice em.A em.x.cmd.mem.length em.c, .slice em.B em.x.voters.length em.d, .slice em.E em.x.learners.length em.f] 38)).alloc (.cells #[.int .i64 m.x.k, .int .i64 m.x.n, .int .i64 m.x.groups, .int .u64 (m.x.mep : Int), .slice m.MA m.x.mem.length m.mc, .int .u64 (m.x.nep : Int), .slice m.NA m.x.nem.length m.nc, .slice m.CA m.x.cut.length m.cc, .slice m.OA m.x.objs.length m.oc, .slice m.IA m.x.ints.length m.ic, .slice m.SA m.x.sess.length m.sc, .slice m.WA m.x.wass.length m.wc, .slice m.DA m.x.down.length m.dc, .int .u64 (m.x.last : Int)] 53)) (w.heap.size + 1 + 1) 53 #[.int .i64 m.x.k, .int .i64 m.x.n, .int .i64 m.x.groups, .int .u64 (m.x.mep : Int), .slice m.MA m.x.mem.length m.mc, .int .u64 (m.x.nep : Int), .slice m.NA m.x.nem.length m.nc, .slice m.CA m.x.cut.length m.cc, .slice m.OA m.x.objs.length m.oc, .slice m.IA m.x.ints.length m.ic, .slice m.SA m.x.sess.length m.sc, .slice m.WA m.x.wass.length m.wc, .slice m.DA m.x.down.length m.dc, .int .u64 (m.x.last : Int)] := by have := Blk.new ((w.alloc (.cells #[.int .i64 cx.kind, .int .u64 (cx.client : Int), .int .u64 (cx.seq : Int), .string (strOf cx.key), .int .i64 cx.size, .int .u32 (cx.sum : Int), .int .u64 (cx.version : Int), .int .u64 (cx.epoch : Int), .int .i64 cx.group, .int .i64 cx.node, .bool cx.up, .int .u64 (cx.id.ver : Int), .int .i64 cx.id.idx, .int .u64 (cx.id.ep : Int), .int .u64 (cx.mep : Int), .slice CA cx.mem.length cc] 33)).alloc (.cells #[.int .u64 (em.x.index : Int), .int .u64 (em.x.term : Int), .int .i64 em.x.kind, .int .i64 em.x.cmd.kind, .int .u64 (em.x.cmd.client : Int), .int .u64 (em.x.cmd.seq : Int), .string (strOf em.x.cmd.key), .int .i64 em.x.cmd.size, .int .u32 (em.x.cmd.sum : Int), .int .u64 (em.x.cmd.version : Int), .int .u64 (em.x.cmd.epoch : Int), .int .i64 em.x.cmd.group, .int .i64 em.x.cmd.node, .bool em.x.cmd.up, .int .u64 (em.x.cmd.id.ver : Int), .int .i64 em.x.cmd.id.idx, .int .u64 (em.x.cmd.id.ep : Int), .int .u64 (em.x.cmd.mep : Int), .slice em.A em.x.cmd.mem.length em.c, .slice em.B em.x.voters.length em.d, .slice em.E em.x.learners.length em.f] 38)) 53 #[.int .i64 m.x.k, .int .i64 m.x.n, .int .i64 m.x.groups, .int .u64 (m.x.mep : Int), .slice m.MA m.x.mem.length m.mc, .int .u64 (m.x.nep : Int), .slice m.NA m.x.nem.length m.nc, .slice m.CA m.x.cut.length m.cc, .slice m.OA m.x.objs.length m.oc, .slice m.IA m.x.ints.length m.ic, .slice m.SA m.x.sess.length m.sc, .slice m.WA m.x.wass.length m.wc, .slice m.DA m.x.down.length m.dc, .int .u64 (m.x.last : Int)]; simpa using this
  have hb : Below w.heap.size w (((w.alloc (.cells #[.int .i64 cx.kind, .int .u64 (cx.client : Int), .int .u64 (cx.seq : Int), .string (strOf cx.key), .int .i64 cx.size, .int .u32 (cx.sum : Int), .int .u64 (cx.version : Int), .int .u64 (cx.epoch : Int), .int .i64 cx.group, .int .i64 cx.node, .bool cx.up, .int .u64 (cx.id.ver : Int), .int .i64 cx.id.idx, .int .u64 (cx.id.ep : Int), .int .u64 (cx.mep : Int), .slice CA cx.mem.length cc] 33)).alloc (.cells #[.int .u64 (em.x.index : Int), .int .u64 (em.x.term : Int), .int .i64 em.x.kind, .int .i64 em.x.cmd.kind, .int .u64 (em.x.cmd.client : Int), .int .u64 (em.x.cmd.seq : Int), .string (strOf em.x.cmd.key), .int .i64 em.x.cmd.size, .int .u32 (em.x.cmd.sum : Int), .int .u64 (em.x.cmd.version : Int), .int .u64 (em.x.cmd.epoch : Int), .int .i64 em.x.cmd.group, .int .i64 em.x.cmd.node, .bool em.x.cmd.up, .int .u64 (em.x.cmd.id.ver : Int), .int .i64 em.x.cmd.id.idx, .int .u64 (em.x.cmd.id.ep : Int), .int .u64 (em.x.cmd.mep : Int), .slice em.A em.x.cmd.mem.length em.c, .slice em.B em.x.voters.length em.d, .slice em.E em.x.learners.length em.f] 38)).alloc (.cells #[.int .i64 m.x.k, .int .i64 m.x.n, .int .i64 m.x.groups, .int .u64 (m.x.mep : Int), .slice m.MA m.x.mem.length m.mc, .int .u64 (m.x.nep : Int), .slice m.NA m.x.nem.length m.nc, .slice m.CA m.x.cut.length m.cc, .slice m.OA m.x.objs.length m.oc, .slice m.IA m.x.ints.length m.ic, .slice m.SA m.x.sess.length m.sc, .slice m.WA m.x.wass.length m.wc, .slice m.DA m.x.down.length m.dc, .int .u64 (m.x.last : Int)] 53)) := (((Below.refl _ _).alloc (Nat.le_refl _) _).alloc (by simp) _).alloc (by simp; omega) _
  obtain ⟨w3, ew3⟩ : ∃ w3, ((w.alloc (.cells #[.int .i64 cx.kind, .int .u64 (cx.client : Int), .int .u64 (cx.seq : Int), .string (strOf cx.key), .int .i64 cx.size, .int .u32 (cx.sum : Int), .int .u64 (cx.version : Int), .int .u64 (cx.epoch : Int), .int .i64 cx.group, .int .i64 cx.node, .bool cx.up, .int .u64 (cx.id.ver : Int), .int .i64 cx.id.idx, .int .u64 (cx.id.ep : Int), .int .u64 (cx.mep : Int), .slice CA cx.mem.length cc] 33)).alloc (.cells #[.int .u64 (em.x.index : Int), .int .u64 (em.x.term : Int), .int .i64 em.x.kind, .int .i64 em.x.cmd.kind, .int .u64 (em.x.cmd.client : Int), .int .u64 (em.x.cmd.seq : Int), .string (strOf em.x.cmd.key), .int .i64 em.x.cmd.size, .int .u32 (em.x.cmd.sum : Int), .int .u64 (em.x.cmd.version : Int), .int .u64 (em.x.cmd.epoch : Int), .int .i64 em.x.cmd.group, .int .i64 em.x.cmd.node, .bool em.x.cmd.up, .int .u64 (em.x.cmd.id.ver : Int), .int .i64 em.x.cmd.id.idx, .int .u64 (em.x.cmd.id.ep : Int), .int .u64 (em.x.cmd.mep : Int), .slice em.A em.x.cmd.mem.length em.c, .slice em.B em.x.voters.length em.d, .slice em.E em.x.learners.length em.f] 38)).alloc (.cells #[.int .i64 m.x.k, .int .i64 m.x.n, .int .i64 m.x.groups, .int .u64 (m.x.mep : Int), .slice m.MA m.x.mem.length m.mc, .int .u64 (m.x.nep : Int), .slice m.NA m.x.nem.length m.nc, .slice m.CA m.x.cut.length m.cc, .slice m.OA m.x.objs.length m.oc, .slice m.IA m.x.ints.length m.ic, .slice m.SA m.x.sess.length m.sc, .slice m.WA m.x.wass.length m.wc, .slice m.DA m.x.down.length m.dc, .int .u64 (m.x.last : Int)] 53) = w3 := ⟨_, rfl⟩
  rw [ew3] at hx hy hz hb
  rw [hb0] at hx hy hz
  have HX := Lib.hid hx
  have HY := Lib.hid hy
  have HZ := Lib.hid hz
  have HB := Lib.hid hb
  have B0 := Lib.hid hb0
  clear hx hy hz hb
  have fc3 : w3.cell? ⟨b0, 3, none⟩ = some (.string (strOf cx.key)) := HX.out.cell 3
  have fe6 : w3.cell? ⟨b0 + 1, 6, none⟩ = some (.string (strOf em.x.cmd.key)) := HY.out.cell 6
  have fm8 : w3.cell? ⟨b0 + 1 + 1, 8, none⟩ = some (.slice m.OA m.x.objs.length m.oc) := HZ.out.cell 8
  have fm10 : w3.cell? ⟨b0 + 1 + 1, 10, none⟩ = some (.slice m.SA m.x.sess.length m.sc) := HZ.out.cell 10
  have fm9 : w3.cell? ⟨b0 + 1 + 1, 9, none⟩ = some (.slice m.IA m.x.ints.length m.ic) := HZ.out.cell 9
  have fm11 : w3.cell? ⟨b0 + 1 + 1, 11, none⟩ = some (.slice m.WA m.x.wass.length m.wc) := HZ.out.cell 11
  have z1 : (strOf cx.key).size = cx.key.length := strOf_size _
  have z2 : (strOf em.x.cmd.key).size = em.x.cmd.key.length := strOf_size _
  obtain ⟨s1, hs1⟩ : ∃ s, strOf cx.key = s := ⟨_, rfl⟩
  obtain ⟨s2, hs2⟩ : ∃ s, strOf em.x.cmd.key = s := ⟨_, rfl⟩
  obtain ⟨kc, hkc⟩ : ∃ l, cx.key.length = l := ⟨_, rfl⟩
  obtain ⟨ke, hke⟩ : ∃ l, em.x.cmd.key.length = l := ⟨_, rfl⟩
  obtain ⟨no, hno⟩ : ∃ l, m.x.objs.length = l := ⟨_, rfl⟩
  obtain ⟨ns, hns⟩ : ∃ l, m.x.sess.length = l := ⟨_, rfl⟩
  obtain ⟨ni, hni⟩ : ∃ l, m.x.ints.length = l := ⟨_, rfl⟩
  obtain ⟨nw, hnw⟩ : ∃ l, m.x.wass.length = l := ⟨_, rfl⟩
  rw [hs1] at fc3 z1
  rw [hs2] at fe6 z2
  rw [hkc] at z1
  rw [hke] at z2
  rw [hno] at fm8
  rw [hns] at fm10
  rw [hni] at fm9
  rw [hnw] at fm11
  have Es1 := Lib.hid hs1
  have Es2 := Lib.hid hs2
  have Ekc := Lib.hid hkc
  have Eke := Lib.hid hke
  have Eno := Lib.hid hno
  have Ens := Lib.hid hns
  have Eni := Lib.hid hni
  have Enw := Lib.hid hnw
  clear hs1 hs2 hkc hke hno hns hni hnw
  go_enter Tryz.func4, Tryz.ntmps4
  go_upto_region 1 with fail
  clear ew3 hb0
  generalize (Value.agg #[.int .i64 cx.kind, .int .u64 (cx.client : Int), .int .u64 (cx.seq : Int), .string (strOf cx.key), .int .i64 cx.size, .int .u32 (cx.sum : Int), .int .u64 (cx.version : Int), .int .u64 (cx.epoch : Int), .int .i64 cx.group, .int .i64 cx.node, .bool cx.up, .int .u64 (cx.id.ver : Int), .int .i64 cx.id.idx, .int .u64 (cx.id.ep : Int), .int .u64 (cx.mep : Int), .slice CA cx.mem.length cc]) = vc
  generalize (Value.agg #[.int .u64 (em.x.index : Int), .int .u64 (em.x.term : Int), .int .i64 em.x.kind, .int .i64 em.x.cmd.kind, .int .u64 (em.x.cmd.client : Int), .int .u64 (em.x.cmd.seq : Int), .string (strOf em.x.cmd.key), .int .i64 em.x.cmd.size, .int .u32 (em.x.cmd.sum : Int), .int .u64 (em.x.cmd.version : Int), .int .u64 (em.x.cmd.epoch : Int), .int .i64 em.x.cmd.group, .int .i64 em.x.cmd.node, .bool em.x.cmd.up, .int .u64 (em.x.cmd.id.ver : Int), .int .i64 em.x.cmd.id.idx, .int .u64 (em.x.cmd.id.ep : Int), .int .u64 (em.x.cmd.mep : Int), .slice em.A em.x.cmd.mem.length em.c, .slice em.B em.x.voters.length em.d, .slice em.E em.x.learners.length em.f]) = ve
  generalize (Value.agg #[.int .i64 m.x.k, .int .i64 m.x.n, .int .i64 m.x.groups, .int .u64 (m.x.mep : Int), .slice m.MA m.x.mem.length m.mc, .int .u64 (m.x.nep : Int), .slice m.NA m.x.nem.length m.nc, .slice m.CA m.x.cut.length m.cc, .slice m.OA m.x.objs.length m.oc, .slice m.IA m.x.ints.length m.ic, .slice m.SA m.x.sess.length m.sc, .slice m.WA m.x.wass.length m.wc, .slice m.DA m.x.down.length m.dc, .int .u64 (m.x.last : Int)]) = vm
  by_cases c0 : 1000000 < kc
  · as_aux_lemma =>
    have p0 : decide ((kc : Int) > 1000000) = true := decide_eq_true (by omega)
    have q0 : decide (1000000 < kc) = true := decide_eq_true c0
    clear c0
    go_wp2_with (go_at_call 14; refine (heads_any w3).mono ?_; rintro e wh ⟨rfl, hb⟩; have HBH := Lib.hid (HB.out.trans (hb.mono HB.out.size)); clear hb)
    go_ret
    exact ⟨rfl, HBH.out⟩
  have p0 : decide ((kc : Int) > 1000000) = false := decide_eq_false (by omega)
  have q0 : decide (1000000 < kc) = false := decide_eq_false c0
  have C0 := Lib.hid (show kc ≤ 1000000 from by omega)
  clear c0
  by_cases c1 : 1000000 < ke
  · as_aux_lemma =>
    have p1 : decide ((ke : Int) > 1000000) = true := decide_eq_true (by omega)
    have q1 : decide (1000000 < ke) = true := decide_eq_true c1
    clear c1
    go_wp2_with (go_at_call 14; refine (heads_any w3).mono ?_; rintro e wh ⟨rfl, hb⟩; have HBH := Lib.hid (HB.out.trans (hb.mono HB.out.size)); clear hb)
    go_ret
    exact ⟨rfl, HBH.out⟩
  have p1 : decide ((ke : Int) > 1000000) = false := decide_eq_false (by omega)
  have q1 : decide (1000000 < ke) = false := decide_eq_false c1
  have C1 := Lib.hid (show ke ≤ 1000000 from by omega)
  clear c1
  by_cases c2 : 100000 < no
  · as_aux_lemma =>
    have p2 : decide ((no : Int) > 100000) = true := decide_eq_true (by omega)
    have q2 : decide (100000 < no) = true := decide_eq_true c2
    clear c2
    go_wp2_with (go_at_call 14; refine (heads_any w3).mono ?_; rintro e wh ⟨rfl, hb⟩; have HBH := Lib.hid (HB.out.trans (hb.mono HB.out.size)); clear hb)
    go_ret
    exact ⟨rfl, HBH.out⟩
  have p2 : decide ((no : Int) > 100000) = false := decide_eq_false (by omega)
  have q2 : decide (100000 < no) = false := decide_eq_false c2
  have C2 := Lib.hid (show no ≤ 100000 from by omega)
  clear c2
  by_cases c3 : 100000 < ns
  · as_aux_lemma =>
    have p3 : decide ((ns : Int) > 100000) = true := decide_eq_true (by omega)
    have q3 : decide (100000 < ns) = true := decide_eq_true c3
    clear c3
    go_wp2_with (go_at_call 14; refine (heads_any w3).mono ?_; rintro e wh ⟨rfl, hb⟩; have HBH := Lib.hid (HB.out.trans (hb.mono HB.out.size)); clear hb)
    go_ret
    exact ⟨rfl, HBH.out⟩
  have p3 : decide ((ns : Int) > 100000) = false := decide_eq_false (by omega)
  have q3 : decide (100000 < ns) = false := decide_eq_false c3
  have C3 := Lib.hid (show ns ≤ 100000 from by omega)
  clear c3
  by_cases c4 : 100000 < ni
  · as_aux_lemma =>
    have p4 : decide ((ni : Int) > 100000) = true := decide_eq_true (by omega)
    have q4 : decide (100000 < ni) = true := decide_eq_true c4
    clear c4
    go_wp2_with (go_at_call 14; refine (heads_any w3).mono ?_; rintro e wh ⟨rfl, hb⟩; have HBH := Lib.hid (HB.out.trans (hb.mono HB.out.size)); clear hb)
    go_ret
    exact ⟨rfl, HBH.out⟩
  have p4 : decide ((ni : Int) > 100000) = false := decide_eq_false (by omega)
  have q4 : decide (100000 < ni) = false := decide_eq_false c4
  have C4 := Lib.hid (show ni ≤ 100000 from by omega)
  clear c4
  by_cases c5 : 100000 < nw
  · as_aux_lemma =>
    have p5 : decide ((nw : Int) > 100000) = true := decide_eq_true (by omega)
    have q5 : decide (100000 < nw) = true := decide_eq_true c5
    clear c5
    go_wp2_with (go_at_call 14; refine (heads_any w3).mono ?_; rintro e wh ⟨rfl, hb⟩; have HBH := Lib.hid (HB.out.trans (hb.mono HB.out.size)); clear hb)
    go_ret
    exact ⟨rfl, HBH.out⟩
  have p5 : decide ((nw : Int) > 100000) = false := decide_eq_false (by omega)
  have q5 : decide (100000 < nw) = false := decide_eq_false c5
  have C5 := Lib.hid (show nw ≤ 100000 from by omega)
  clear c5
  go_wp2_with fail
  clear fc3 fe6 fm10 fm11 z1 z2 p0 q0 p1 q1 p2 q2 p3 q3 p4 q4 p5 q5
  as_aux_lemma =>
  go_loopw [11] (fun vi wr => ∃ k : Nat, k ≤ no ∧ vi = .int .i64 k ∧ wr = w3 ∧ Hid (∀ o ∈ m.os.take k, o.x.key.length ≤ 1000000 ∧ o.x.nodes.length ≤ 100000)) (fun vi _ => no - (intOf vi).toNat)
  case atStart => exact ⟨0, by omega, rfl, rfl, Lib.hid (fun o h => by simp at h)⟩
  case round =>
  obtain ⟨k, hk, rfl, hw, Kos⟩ := hrel
  have hw := hw.symm
  subst hw
  by_cases hlt : k < no
  · as_aux_lemma =>
    have d1 : decide (k < no) = true := decide_eq_true hlt
    have hRd := (hM.out.later HB.out).objs
    rw [Eno.out] at hRd
    obtain ⟨ad, hA, hadb, hc⟩ := hRd.2 (by omega)
    have hke : k < m.os.length := by rw [hM.out.len.1, Eno.out]; exact hlt
    have hrow := row_cells (cells := omCs) (size := 7) (fun _ => rfl) hc hke
    have hst := List.take_succ_eq_append_getElem hke
    obtain ⟨om, hom⟩ : ∃ om, m.os[k] = om := ⟨_, rfl⟩
    rw [hom] at hrow hst
    have g0 := hrow 0 (.string (strOf om.x.key)) rfl
    have g6 := hrow 6 (.slice om.A om.x.nodes.length om.c) rfl
    rw [Addr.add_zero'] at g0
    rw [Addr.add_succ'] at g6
    have zz1 : (strOf om.x.key).size = om.x.key.length := strOf_size _
    obtain ⟨s3, hs3⟩ : ∃ s, strOf om.x.key = s := ⟨_, rfl⟩
    obtain ⟨kl, hkl⟩ : ∃ l, om.x.key.length = l := ⟨_, rfl⟩
    obtain ⟨nl, hnl⟩ : ∃ l, om.x.nodes.length = l := ⟨_, rfl⟩
    rw [hs3] at g0 zz1
    rw [hkl] at zz1
    rw [hnl] at g6
    rw [hA] at fm8
    have EKL := Lib.hid hkl
    have ENL := Lib.hid hnl
    have EST := Lib.hid hst
    clear hRd hA hadb hc hke hrow hst hom hs3 hkl hnl
    by_cases c0 : 1000000 < kl
    · as_aux_lemma =>
      have p0 : decide ((kl : Int) > 1000000) = true := decide_eq_true (by omega)
      have q0 : decide (1000000 < kl) = true := decide_eq_true c0
      clear c0
      go_wp2_with (go_at_call 14; refine (heads_any w3).mono ?_; rintro e wh ⟨rfl, hb⟩; have HBH := Lib.hid (HB.out.trans (hb.mono HB.out.size)); clear hb)
      go_ret
      exact ⟨rfl, HBH.out⟩
    · have p0 : decide ((kl : Int) > 1000000) = false := decide_eq_false (by omega)
      have q0 : decide (1000000 < kl) = false := decide_eq_false c0
      by_cases c1 : 100000 < nl
      · as_aux_lemma =>
        have p1 : decide ((nl : Int) > 100000) = true := decide_eq_true (by omega)
        have q1 : decide (100000 < nl) = true := decide_eq_true c1
        clear c0 c1
        go_wp2_with (go_at_call 14; refine (heads_any w3).mono ?_; rintro e wh ⟨rfl, hb⟩; have HBH := Lib.hid (HB.out.trans (hb.mono HB.out.size)); clear hb)
        go_ret
        exact ⟨rfl, HBH.out⟩
      · as_aux_lemma =>
        have p1 : decide ((nl : Int) > 100000) = false := decide_eq_false (by omega)
        have q1 : decide (100000 < nl) = false := decide_eq_false c1
        have CC := Lib.hid (And.intro c0 c1)
        have hnb := C2.out
        clear c0 c1
        go_wp2_with fail
        refine ⟨⟨k + 1, by omega, by go_num, (by first | rfl | trivial), Lib.hid (fun o ho => ?_)⟩, by simp [intOf]; omega⟩
        rw [EST.out] at ho
        rcases List.mem_append.1 ho with ho | ho
        · exact Kos.out o ho
        · rw [List.mem_singleton.1 ho, EKL.out, ENL.out]; have := CC.out; omega
  obtain rfl : k = no := by omega
  have d1 : decide (k < k) = false := decide_eq_false hlt
  have hall : m.os.take k = m.os := List.take_of_length_le (by rw [hM.out.len.1, Eno.out]; exact Nat.le_refl _)
  rw [hall] at Kos
  obtain ⟨no, hkn⟩ : ∃ q, q = k := ⟨_, rfl⟩
  subst hkn
  clear hall hlt hk
  as_aux_lemma =>
  go_wp2_with fail
  clear d1 fm8
  go_loopw [12] (fun vi wr => ∃ k : Nat, k ≤ ni ∧ vi = .int .i64 k ∧ wr = w3 ∧ Hid (∀ o ∈ m.is.take k, o.x.obj.key.length ≤ 1000000 ∧ o.x.obj.nodes.length ≤ 100000)) (fun vi _ => ni - (intOf vi).toNat)
  case atStart => exact ⟨0, by omega, rfl, rfl, Lib.hid (fun o h => by simp at h)⟩
  case round =>
  obtain ⟨k, hk, rfl, hw, Kis⟩ := hrel
  have hw := hw.symm
  subst hw
  by_cases hlt : k < ni
  · as_aux_lemma =>
    have d1 : decide (k < ni) = true := decide_eq_true hlt
    have hRd := (hM.out.later HB.out).ints
    rw [Eni.out] at hRd
    obtain ⟨ad, hA, hadb, hc⟩ := hRd.2 (by omega)
    have hke : k < m.is.length := by rw [hM.out.len.2, Eni.out]; exact hlt
    have hrow := row_cells (cells := imCs) (size := 9) (fun _ => rfl) hc hke
    have hst := List.take_succ_eq_append_getElem hke
    obtain ⟨om, hom⟩ : ∃ om, m.is[k] = om := ⟨_, rfl⟩
    rw [hom] at hrow hst
    have g0 := hrow 0 (.string (strOf om.x.obj.key)) rfl
    have g6 := hrow 6 (.slice om.A om.x.obj.nodes.length om.c) rfl
    rw [Addr.add_zero'] at g0
    rw [Addr.add_succ'] at g6
    have zz1 : (strOf om.x.obj.key).size = om.x.obj.key.length := strOf_size _
    obtain ⟨s3, hs3⟩ : ∃ s, strOf om.x.obj.key = s := ⟨_, rfl⟩
    obtain ⟨kl, hkl⟩ : ∃ l, om.x.obj.key.length = l := ⟨_, rfl⟩
    obtain ⟨nl, hnl⟩ : ∃ l, om.x.obj.nodes.length = l := ⟨_, rfl⟩
    rw [hs3] at g0 zz1
    rw [hkl] at zz1
    rw [hnl] at g6
    rw [hA] at fm9
    have EKL := Lib.hid hkl
    have ENL := Lib.hid hnl
    have EST := Lib.hid hst
    clear hRd hA hadb hc hke hrow hst hom hs3 hkl hnl
    by_cases c0 : 1000000 < kl
    · as_aux_lemma =>
      have p0 : decide ((kl : Int) > 1000000) = true := decide_eq_true (by omega)
      have q0 : decide (1000000 < kl) = true := decide_eq_true c0
      clear c0
      go_wp2_with (go_at_call 14; refine (heads_any w3).mono ?_; rintro e wh ⟨rfl, hb⟩; have HBH := Lib.hid (HB.out.trans (hb.mono HB.out.size)); clear hb)
      go_ret
      exact ⟨rfl, HBH.out⟩
    · have p0 : decide ((kl : Int) > 1000000) = false := decide_eq_false (by omega)
      have q0 : decide (1000000 < kl) = false := decide_eq_false c0
      by_cases c1 : 100000 < nl
      · as_aux_lemma =>
        have p1 : decide ((nl : Int) > 100000) = true := decide_eq_true (by omega)
        have q1 : decide (100000 < nl) = true := decide_eq_true c1
        clear c0 c1
        go_wp2_with (go_at_call 14; refine (heads_any w3).mono ?_; rintro e wh ⟨rfl, hb⟩; have HBH := Lib.hid (HB.out.trans (hb.mono HB.out.size)); clear hb)
        go_ret
        exact ⟨rfl, HBH.out⟩
      · as_aux_lemma =>
        have p1 : decide ((nl : Int) > 100000) = false := decide_eq_false (by omega)
        have q1 : decide (100000 < nl) = false := decide_eq_false c1
        have CC := Lib.hid (And.intro c0 c1)
        have hnb := C4.out
        clear c0 c1
        go_wp2_with fail
        refine ⟨⟨k + 1, by omega, by go_num, (by first | rfl | trivial), Lib.hid (fun o ho => ?_)⟩, by simp [intOf]; omega⟩
        rw [EST.out] at ho
        rcases List.mem_append.1 ho with ho | ho
        · exact Kis.out o ho
        · rw [List.mem_singleton.1 ho, EKL.out, ENL.out]; have := CC.out; omega
  obtain rfl : k = ni := by omega
  have d1 : decide (k < k) = false := decide_eq_false hlt
  have hall : m.is.take k = m.is := List.take_of_length_le (by rw [hM.out.len.2, Eni.out]; exact Nat.le_refl _)
  rw [hall] at Kis
  obtain ⟨ni, hkn⟩ : ∃ q, q = k := ⟨_, rfl⟩
  subst hkn
  clear hall hlt hk
  as_aux_lemma =>
  have fn1 : w3.cell? ⟨b0, 15, none⟩ = some (.slice CA cx.mem.length cc) := HX.out.cell 15
  obtain ⟨n1, hn1⟩ : ∃ l, cx.mem.length = l := ⟨_, rfl⟩
  rw [hn1] at fn1
  have En1 := Lib.hid hn1
  clear hn1
  have fn2 : w3.cell? ⟨b0 + 1, 18, none⟩ = some (.slice em.A em.x.cmd.mem.length em.c) := HY.out.cell 18
  obtain ⟨n2, hn2⟩ : ∃ l, em.x.cmd.mem.length = l := ⟨_, rfl⟩
  rw [hn2] at fn2
  have En2 := Lib.hid hn2
  clear hn2
  have fn3 : w3.cell? ⟨b0 + 1, 19, none⟩ = some (.slice em.B em.x.voters.length em.d) := HY.out.cell 19
  obtain ⟨n3, hn3⟩ : ∃ l, em.x.voters.length = l := ⟨_, rfl⟩
  rw [hn3] at fn3
  have En3 := Lib.hid hn3
  clear hn3
  have fn4 : w3.cell? ⟨b0 + 1, 20, none⟩ = some (.slice em.E em.x.learners.length em.f) := HY.out.cell 20
  obtain ⟨n4, hn4⟩ : ∃ l, em.x.learners.length = l := ⟨_, rfl⟩
  rw [hn4] at fn4
  have En4 := Lib.hid hn4
  clear hn4
  have fn5 : w3.cell? ⟨b0 + 1 + 1, 4, none⟩ = some (.slice m.MA m.x.mem.length m.mc) := HZ.out.cell 4
  obtain ⟨n5, hn5⟩ : ∃ l, m.x.mem.length = l := ⟨_, rfl⟩
  rw [hn5] at fn5
  have En5 := Lib.hid hn5
  clear hn5
  have fn6 : w3.cell? ⟨b0 + 1 + 1, 6, none⟩ = some (.slice m.NA m.x.nem.length m.nc) := HZ.out.cell 6
  obtain ⟨n6, hn6⟩ : ∃ l, m.x.nem.length = l := ⟨_, rfl⟩
  rw [hn6] at fn6
  have En6 := Lib.hid hn6
  clear hn6
  have fn7 : w3.cell? ⟨b0 + 1 + 1, 7, none⟩ = some (.slice m.CA m.x.cut.length m.cc) := HZ.out.cell 7
  obtain ⟨n7, hn7⟩ : ∃ l, m.x.cut.length = l := ⟨_, rfl⟩
  rw [hn7] at fn7
  have En7 := Lib.hid hn7
  clear hn7
  have fn8 : w3.cell? ⟨b0 + 1 + 1, 12, none⟩ = some (.slice m.DA m.x.down.length m.dc) := HZ.out.cell 12
  obtain ⟨n8, hn8⟩ : ∃ l, m.x.down.length = l := ⟨_, rfl⟩
  rw [hn8] at fn8
  have En8 := Lib.hid hn8
  clear hn8
  obtain ⟨mx, hmx, hmax⟩ := max8 Tryz.prog (n1 : Int) (n2 : Int) (n3 : Int) (n4 : Int) (n5 : Int) (n6 : Int) (n7 : Int) (n8 : Int)
  have EMX := Lib.hid hmx
  clear hmx
  by_cases c9 : mx > 100000
  · as_aux_lemma =>
    have p9 : decide (mx > 100000) = true := decide_eq_true c9
    have q9 : decide (100000 < mx) = true := decide_eq_true c9
    clear c9
    go_wp2_with (go_at_call 14; refine (heads_any w3).mono ?_; rintro e wh ⟨rfl, hb⟩; have HBH := Lib.hid (HB.out.trans (hb.mono HB.out.size)); clear hb)
    go_ret
    exact ⟨rfl, HBH.out⟩
  have p9 : decide (mx > 100000) = false := decide_eq_false c9
  have q9 : decide (100000 < mx) = false := decide_eq_false c9
  have C9 := Lib.hid c9
  clear c9
  go_upto_region 16 with fail
  clear p9 q9 hmax d1 fm9 fn1 fn2 fn3 fn4 fn5 fn6 fn7 fn8
  as_aux_lemma =>
  have HCO := Lib.hid (wC.out.ok (by rw [Ekc.out]; have := C0.out; omega) (by rw [En1.out]; have := EMX.out; have := C9.out; omega))
  have HEO := Lib.hid (hE.out.ok.ok (by rw [Eke.out]; have := C1.out; omega) (by rw [En2.out]; have := EMX.out; have := C9.out; omega) (by rw [En3.out]; have := EMX.out; have := C9.out; omega) (by rw [En4.out]; have := EMX.out; have := C9.out; omega))
  have HMO := Lib.hid (wM.out.ok hM.out.os hM.out.is (by rw [En5.out]; have := EMX.out; have := C9.out; omega) (by rw [En6.out]; have := EMX.out; have := C9.out; omega) (by rw [En7.out]; have := EMX.out; have := C9.out; omega) Kos.out (by rw [Eno.out]; have := C2.out; omega) Kis.out (by rw [Eni.out]; have := C4.out; omega) (by rw [Ens.out]; have := C3.out; omega) (by rw [Enw.out]; have := C5.out; omega) (by rw [En8.out]; have := EMX.out; have := C9.out; omega))
  clear wC wM Kos Kis EMX C9 C0 C1 C2 C3 C4 C5 Es1 Es2 Ekc Eke Eno Ens Eni Enw En1 En2 En3 En4 En5 En6 En7 En8
  have hon : xs.length = on := by simpa using hO.out.1
  have hdn : zs.length = dn := by simpa using hD.out.1
  have k1 := pCmd_len HCO.out
  have k2 := pEnt_len HEO.out
  have k3 := pMetS_len HMO.out
  have g1 := (got_cmd HCO.out).rd xs (pEnt em.x ++ (pMet m.x ++ zs))
  have g2 := (got_ent HEO.out).rd (xs ++ pCmd cx) (pMet m.x ++ zs)
  have g3 := (got_met HMO.out).rd ((xs ++ pCmd cx) ++ pEnt em.x) zs
  have by4 : Byt ((((xs ++ pCmd cx) ++ pEnt em.x) ++ pMet m.x) ++ zs) := byt_app (byt_app (byt_app (byt_app yO.out (pCmd_byt HCO.out)) (pEnt_byt HEO.out)) (pMet_byt HMO.out)) yD.out
  have a1 : xs ++ (pCmd cx ++ (pEnt em.x ++ (pMet m.x ++ zs))) = (((xs ++ pCmd cx) ++ pEnt em.x) ++ pMet m.x) ++ zs := by simp only [List.append_assoc]
  have a2 : (xs ++ pCmd cx) ++ (pEnt em.x ++ (pMet m.x ++ zs)) = (((xs ++ pCmd cx) ++ pEnt em.x) ++ pMet m.x) ++ zs := by simp only [List.append_assoc]
  have a3 : ((xs ++ pCmd cx) ++ pEnt em.x) ++ (pMet m.x ++ zs) = (((xs ++ pCmd cx) ++ pEnt em.x) ++ pMet m.x) ++ zs := by simp only [List.append_assoc]
  rw [a1, hon] at g1
  rw [a2] at g2
  rw [a3] at g3
  have hP1 := fun W h h2 => put_cmd O on oc xs CA cc cx W h h2 HCO.out (by have := bO.out; omega)
  have q1 : (xs ++ pCmd cx).length ≤ 23068976 := by rw [List.length_append]; have := bO.out; omega
  have q2 : ((xs ++ pCmd cx) ++ pEnt em.x).length ≤ 66061016 := by rw [List.length_append]; omega
  have q3 : (((xs ++ pCmd cx) ++ pEnt em.x) ++ pMet m.x).length ≤ 24189844063096 := by rw [List.length_append]; omega
  have q4 : ((((xs ++ pCmd cx) ++ pEnt em.x) ++ pMet m.x) ++ zs).length = (((xs ++ pCmd cx) ++ pEnt em.x) ++ pMet m.x).length + dn := by rw [List.length_append, hdn]
  have t1 : on ≤ (xs ++ pCmd cx).length := by rw [List.length_append]; omega
  have t2 : (xs ++ pCmd cx).length ≤ ((xs ++ pCmd cx) ++ pEnt em.x).length := len_app _ _
  have t3 : ((xs ++ pCmd cx) ++ pEnt em.x).length ≤ (((xs ++ pCmd cx) ++ pEnt em.x) ++ pMet m.x).length := len_app _ _
  clear a1 a2 a3 k1 k2 k3 hon
  have em1 : xs ++ pCmd cx = xs ++ pCmd cx := rfl
  obtain ⟨y1, ey1⟩ : ∃ y, xs ++ pCmd cx = y := ⟨_, rfl⟩
  have Ey1 := Lib.hid ey1
  rw [ey1] at hP1
  rw [ey1] at g1 g2 g3 by4 q1 q2 q3 q4 t1 t2 t3
  clear ey1
  obtain ⟨y2, ey2⟩ : ∃ y, y1 ++ pEnt em.x = y := ⟨_, rfl⟩
  have Ey2 := Lib.hid ey2
  rw [ey2] at g2 g3 by4 q2 q3 q4 t2 t3
  skip
  rw [ey2] at g1
  clear ey2
  obtain ⟨y3, ey3⟩ : ∃ y, y2 ++ pMet m.x = y := ⟨_, rfl⟩
  have Ey3 := Lib.hid ey3
  rw [ey3] at g3 by4 q3 q4 t3
  skip
  rw [ey3] at g1 g2
  clear ey3
  obtain ⟨y4, ey4⟩ : ∃ y, y3 ++ zs = y := ⟨_, rfl⟩
  have Ey4 := Lib.hid ey4
  rw [ey4] at by4 q4
  rw [ey4] at g1
  rw [ey4] at g2 g3
  clear ey4
  clear em1
  obtain ⟨p, hp⟩ : ∃ n, y1.length = n := ⟨_, rfl⟩
  obtain ⟨q, hq⟩ : ∃ n, y2.length = n := ⟨_, rfl⟩
  obtain ⟨r, hr⟩ : ∃ n, y3.length = n := ⟨_, rfl⟩
  rw [hp] at g1 g2 q1 t1 t2
  rw [hq] at g2 g3 q2 t2 t3
  rw [hr] at g3 q3 q4 t3
  have HP1 := Lib.hid (fun W h h2 => (hP1 W h h2).mono fun e w' hh => ro_of hp hh)
  have HP2 := Lib.hid (fun A1 c1 W h k1 k2 k3 => (put_entry A1 p c1 y1 em.A em.c em.B em.d em.E em.f em.x W h k1 k2 k3 HEO.out (by omega)).mono fun e w' hh => ro_of hq (by rw [← Ey2.out]; exact hh))
  have HP3 := Lib.hid (fun A1 c1 W h k1 => (put_meta A1 q c1 y2 m W h k1 HMO.out (by omega)).mono fun e w' hh => ro_of hr (by rw [← Ey3.out]; exact hh))
  have HP4 := Lib.hid (fun A1 c1 W h => copy_any A1 c1 r (y3.map bv) W h (bv_one y3) (by omega))
  have HR1 := Lib.hid (show ∀ A4 c4 W, Hid (InB W A4 (r + dn) c4 y4) → Calls Tryz.prog 17 #[.slice A4 (r + dn) c4, .int .i64 (on : Int)] W (fun e w' => Below W.heap.size W w' ∧ ∃ v, e = .returned (.tuple #[v, .int .i64 ((p : Nat) : Int), .int .i64 0]) ∧ vCmd W.heap.size cx w' v) from fun A4 c4 W h => by have := xu_cmd A4 (r + dn) c4 y4 (on : Int) W h; rw [resOf_some (by omega) g1] at this; exact this)
  have HR2 := Lib.hid (show ∀ A4 c4 W, Hid (InB W A4 (r + dn) c4 y4) → Calls Tryz.prog 5 #[.slice A4 (r + dn) c4, .int .i64 (p : Int)] W (fun e w' => Below W.heap.size W w' ∧ ∃ v, e = .returned (.tuple #[v, .int .i64 ((q : Nat) : Int), .int .i64 0]) ∧ vEnt W.heap.size em.x w' v) from fun A4 c4 W h => by have := xu_entry A4 (r + dn) c4 y4 (p : Int) W h; rw [resOf_some (by omega) g2] at this; exact this)
  have HR3 := Lib.hid (show ∀ A4 c4 W, Hid (InB W A4 (r + dn) c4 y4) → Calls Tryz.prog 10 #[.slice A4 (r + dn) c4, .int .i64 (q : Int)] W (fun e w' => Below W.heap.size W w' ∧ ∃ v, e = .returned (.tuple #[v, .int .i64 ((r : Nat) : Int), .int .i64 0]) ∧ vMet W.heap.size m.x w' v) from fun A4 c4 W h => by have := xu_meta A4 (r + dn) c4 y4 (q : Int) W h; rw [resOf_some (by omega) g3] at this; exact this)
  have HQ := Lib.hid (And.intro q3 (And.intro q4 by4))
  have HDN := Lib.hid hdn
  have HRR := Lib.hid hr
  clear g1 g2 g3 by4 q1 q2 q3 q4 t1 t2 t3 hp hq hr hP1 hdn yO yD
  go_wp2_with (first
    | (refine wpl_load_blk rfl 33 (.tmp 6) rfl b0 33 #[.int .i64 cx.kind, .int .u64 (cx.client : Int), .int .u64 (cx.seq : Int), .string (strOf cx.key), .int .i64 cx.size, .int .u32 (cx.sum : Int), .int .u64 (cx.version : Int), .int .u64 (cx.epoch : Int), .int .i64 cx.group, .int .i64 cx.node, .bool cx.up, .int .u64 (cx.id.ver : Int), .int .i64 cx.id.idx, .int .u64 (cx.id.ep : Int), .int .u64 (cx.mep : Int), .slice CA cx.mem.length cc] _ rfl HX.out Tryz.underlying33 rfl Tryz.sizeC ?_)
    | (go_at_call 15; refine (HP1.out w3 (Lib.hid (hO.out.later HB.out)) (Lib.hid (hC.out.later HB.out))).mono ?_; rintro e w4 ⟨A1, c1, rfl, r1, hb⟩
       have HB := Lib.hid (HB.out.trans (hb.mono HB.out.size))
       have HX := Lib.hid (HX.out.below hb HX.out.lt)
       have HY := Lib.hid (HY.out.below hb HY.out.lt)
       have HZ := Lib.hid (HZ.out.below hb HZ.out.lt)
       have R1 := Lib.hid r1
       clear r1 hb HP1)
    | (refine wpl_load_blk rfl 38 (.tmp 7) rfl (b0 + 1) 38 #[.int .u64 (em.x.index : Int), .int .u64 (em.x.term : Int), .int .i64 em.x.kind, .int .i64 em.x.cmd.kind, .int .u64 (em.x.cmd.client : Int), .int .u64 (em.x.cmd.seq : Int), .string (strOf em.x.cmd.key), .int .i64 em.x.cmd.size, .int .u32 (em.x.cmd.sum : Int), .int .u64 (em.x.cmd.version : Int), .int .u64 (em.x.cmd.epoch : Int), .int .i64 em.x.cmd.group, .int .i64 em.x.cmd.node, .bool em.x.cmd.up, .int .u64 (em.x.cmd.id.ver : Int), .int .i64 em.x.cmd.id.idx, .int .u64 (em.x.cmd.id.ep : Int), .int .u64 (em.x.cmd.mep : Int), .slice em.A em.x.cmd.mem.length em.c, .slice em.B em.x.voters.length em.d, .slice em.E em.x.learners.length em.f] _ rfl HY.out Tryz.underlying38 rfl Tryz.sizeE ?_)
    | (go_at_call 9; refine (HP2.out A1 c1 w4 R1 (Lib.hid (hE.out.r1.later HB.out)) (Lib.hid (hE.out.r2.later HB.out)) (Lib.hid (hE.out.r3.later HB.out))).mono ?_; rintro e w5 ⟨A2, c2, rfl, r2, hb⟩
       have HB := Lib.hid (HB.out.trans (hb.mono HB.out.size))
       have HX := Lib.hid (HX.out.below hb HX.out.lt)
       have HY := Lib.hid (HY.out.below hb HY.out.lt)
       have HZ := Lib.hid (HZ.out.below hb HZ.out.lt)
       have R2 := Lib.hid r2
       clear r2 hb HP2 R1)
    | (refine wpl_load_blk rfl 53 (.tmp 8) rfl (b0 + 1 + 1) 53 #[.int .i64 m.x.k, .int .i64 m.x.n, .int .i64 m.x.groups, .int .u64 (m.x.mep : Int), .slice m.MA m.x.mem.length m.mc, .int .u64 (m.x.nep : Int), .slice m.NA m.x.nem.length m.nc, .slice m.CA m.x.cut.length m.cc, .slice m.OA m.x.objs.length m.oc, .slice m.IA m.x.ints.length m.ic, .slice m.SA m.x.sess.length m.sc, .slice m.WA m.x.wass.length m.wc, .slice m.DA m.x.down.length m.dc, .int .u64 (m.x.last : Int)] _ rfl HZ.out Tryz.underlying53 rfl Tryz.sizeMet ?_)
    | (go_at_call 13; refine (HP3.out A2 c2 w5 R2 (Lib.hid (hM.out.later HB.out))).mono ?_; rintro e w6 ⟨A3, c3, rfl, r3, hb⟩
       have HB := Lib.hid (HB.out.trans (hb.mono HB.out.size))
       have HX := Lib.hid (HX.out.below hb HX.out.lt)
       have HY := Lib.hid (HY.out.below hb HY.out.lt)
       have HZ := Lib.hid (HZ.out.below hb HZ.out.lt)
       have R3 := Lib.hid r3
       clear r3 hb HP3 R2)
    | (go_at_call 16; refine (HP4.out A3 c3 w6 R3.out).mono ?_; rintro e w7 hcp
       obtain ⟨A4, c4, rfl, -, -, -, hb, ho⟩ := hcp.open
       rw [List.length_map, HRR.out] at ho ⊢
       have OW := Lib.hid ho
       have HCB := Lib.hid hb
       clear ho hb HP4 R3 hcp)
    | (at_builtin
       refine wpl_append rfl (.tmp 168) (.tmp 169) _ rfl w6 w6.heap.size 5 _ 1 1 Tryz.underlying22 Tryz.infoU8 rfl (by decide) (.slice A4 r c4) r (y3.map bv) rfl OW.out w7.heap.size D dn dc (zs.map bv) rfl (hD.out.later (HB.out.trans (HCB.out.mono HB.out.size))) (bv_one zs) (by have := HQ.out.1; have := bD.out; omega) (by decide) HCB.out HCB.out.size ?_
       intro v8 w8 hh
       have ho := hh.out.1
       rw [← List.map_append, Ey4.out] at ho
       have hb : Below w6.heap.size w6 w8 := hh.out.2.1
       obtain ⟨A5, c5, rfl, hc5, hm5⟩ := own_slice ho
       have HB := Lib.hid (HB.out.trans (hb.mono HB.out.size))
       have HX := Lib.hid (HX.out.below hb HX.out.lt)
       have HY := Lib.hid (HY.out.below hb HY.out.lt)
       have HZ := Lib.hid (HZ.out.below hb HZ.out.lt)
       have HI := Lib.hid (⟨Reads.of_own ho, HQ.out.2.2, HQ.out.2.1, hc5, hm5, by have := HQ.out.1; have := bD.out; omega⟩ : InB w8 A5 (r + dn) c5 y4)
       clear hh ho hb hc5 hm5 OW HCB))
  go_upto_region 26 with (first
    | (go_at_call 17; refine (HR1.out A5 c5 w8 HI).mono ?_; rintro e w9 ⟨hb, v, rfl, B1, d1, rfl, l1, -⟩
       unfold cmdCs
       have HB := Lib.hid (HB.out.trans (hb.mono HB.out.size))
       have HX := Lib.hid (HX.out.below hb HX.out.lt)
       have HY := Lib.hid (HY.out.below hb HY.out.lt)
       have HZ := Lib.hid (HZ.out.below hb HZ.out.lt)
       have HI := Lib.hid (HI.out.later hb)
       have K1 := Lib.hid l1.rd
       clear hb l1 HR1)
    | (refine wpl_store_blk rfl 33 (.tmp 18) (.tmp 176) rfl w9.heap.size 33 #[.int .i64 0, .int .u64 0, .int .u64 0, .string ⟨#[]⟩, .int .i64 0, .int .u32 0, .int .u64 0, .int .u64 0, .int .i64 0, .int .i64 0, .bool false, .int .u64 0, .int .i64 0, .int .u64 0, .int .u64 0, .slice none 0 0] #[.int .i64 cx.kind, .int .u64 (cx.client : Int), .int .u64 (cx.seq : Int), .string (strOf cx.key), .int .i64 cx.size, .int .u32 (cx.sum : Int), .int .u64 (cx.version : Int), .int .u64 (cx.epoch : Int), .int .i64 cx.group, .int .i64 cx.node, .bool cx.up, .int .u64 (cx.id.ver : Int), .int .i64 cx.id.idx, .int .u64 (cx.id.ep : Int), .int .u64 (cx.mep : Int), .slice B1 cx.mem.length d1] rfl rfl (Blk.new w9 _ _) rfl Tryz.sizeC rfl ?_; intro w10 hB1 hO1
       have hs : Below w9.heap.size w9 w10 := ((Below.refl _ _).alloc (Nat.le_refl _) _).trans (hO1.out.below (Nat.le_refl _))
       have HB := Lib.hid (HB.out.trans (hs.mono HB.out.size))
       have HX := Lib.hid (HX.out.below hs HX.out.lt)
       have HY := Lib.hid (HY.out.below hs HY.out.lt)
       have HZ := Lib.hid (HZ.out.below hs HZ.out.lt)
       have HI := Lib.hid (HI.out.later hs)
       have K1 := Lib.hid (K1.out.later hs)
       have Q1 := hB1
       clear hs hO1 hB1)
    | (go_at_call 5; refine (HR2.out A5 c5 w10 HI).mono ?_; rintro e w11 ⟨hb, v, rfl, B2, d2, B3, d3, B4, d4, rfl, l1, l2, l3, -⟩
       unfold entCs
       have HB := Lib.hid (HB.out.trans (hb.mono HB.out.size))
       have HX := Lib.hid (HX.out.below hb HX.out.lt)
       have HY := Lib.hid (HY.out.below hb HY.out.lt)
       have HZ := Lib.hid (HZ.out.below hb HZ.out.lt)
       have Q1 := Lib.hid (Q1.out.below hb Q1.out.lt)
       have HI := Lib.hid (HI.out.later hb)
       have K1 := Lib.hid (K1.out.later hb)
       have K2 := Lib.hid l1.rd
       have K3 := Lib.hid l2.rd
       have K4 := Lib.hid l3.rd
       clear hb l1 l2 l3 HR2)
    | (refine wpl_store_blk rfl 38 (.tmp 21) (.tmp 183) rfl w11.heap.size 38 #[.int .u64 0, .int .u64 0, .int .i64 0, .int .i64 0, .int .u64 0, .int .u64 0, .string ⟨#[]⟩, .int .i64 0, .int .u32 0, .int .u64 0, .int .u64 0, .int .i64 0, .int .i64 0, .bool false, .int .u64 0, .int .i64 0, .int .u64 0, .int .u64 0, .slice none 0 0, .slice none 0 0, .slice none 0 0] #[.int .u64 (em.x.index : Int), .int .u64 (em.x.term : Int), .int .i64 em.x.kind, .int .i64 em.x.cmd.kind, .int .u64 (em.x.cmd.client : Int), .int .u64 (em.x.cmd.seq : Int), .string (strOf em.x.cmd.key), .int .i64 em.x.cmd.size, .int .u32 (em.x.cmd.sum : Int), .int .u64 (em.x.cmd.version : Int), .int .u64 (em.x.cmd.epoch : Int), .int .i64 em.x.cmd.group, .int .i64 em.x.cmd.node, .bool em.x.cmd.up, .int .u64 (em.x.cmd.id.ver : Int), .int .i64 em.x.cmd.id.idx, .int .u64 (em.x.cmd.id.ep : Int), .int .u64 (em.x.cmd.mep : Int), .slice B2 em.x.cmd.mem.length d2, .slice B3 em.x.voters.length d3, .slice B4 em.x.learners.length d4] rfl rfl (Blk.new w11 _ _) rfl Tryz.sizeE rfl ?_; intro w12 hB1 hO1
       have hs : Below w11.heap.size w11 w12 := ((Below.refl _ _).alloc (Nat.le_refl _) _).trans (hO1.out.below (Nat.le_refl _))
       have HB := Lib.hid (HB.out.trans (hs.mono HB.out.size))
       have HX := Lib.hid (HX.out.below hs HX.out.lt)
       have HY := Lib.hid (HY.out.below hs HY.out.lt)
       have HZ := Lib.hid (HZ.out.below hs HZ.out.lt)
       have Q1 := Lib.hid (Q1.out.below hs Q1.out.lt)
       have HI := Lib.hid (HI.out.later hs)
       have K1 := Lib.hid (K1.out.later hs)
       have K2 := Lib.hid (K2.out.later hs)
       have K3 := Lib.hid (K3.out.later hs)
       have K4 := Lib.hid (K4.out.later hs)
       have Q2 := hB1
       clear hs hO1 hB1)
    | (go_at_call 10; refine (HR3.out A5 c5 w12 HI).mono ?_; rintro e w13 ⟨hb, v, rfl, P1, e1, rfl, l1, -⟩
       have HB := Lib.hid (HB.out.trans (hb.mono HB.out.size))
       have HX := Lib.hid (HX.out.below hb HX.out.lt)
       have HY := Lib.hid (HY.out.below hb HY.out.lt)
       have HZ := Lib.hid (HZ.out.below hb HZ.out.lt)
       have Q1 := Lib.hid (Q1.out.below hb Q1.out.lt)
       have Q2 := Lib.hid (Q2.out.below hb Q2.out.lt)
       have HI := Lib.hid (HI.out.later hb)
       have K1 := Lib.hid (K1.out.later hb)
       have K2 := Lib.hid (K2.out.later hb)
       have K3 := Lib.hid (K3.out.later hb)
       have K4 := Lib.hid (K4.out.later hb)
       have K5 := Lib.hid l1.rd
       have E1 := Lib.hid e1
       clear hb l1 e1 HR3)
    | (refine wpl_store_blk rfl 53 (.tmp 24) (.tmp 190) rfl w13.heap.size 53 #[.int .i64 0, .int .i64 0, .int .i64 0, .int .u64 0, .slice none 0 0, .int .u64 0, .slice none 0 0, .slice none 0 0, .slice none 0 0, .slice none 0 0, .slice none 0 0, .slice none 0 0, .slice none 0 0, .int .u64 0] #[.int .i64 P1.x.k, .int .i64 P1.x.n, .int .i64 P1.x.groups, .int .u64 (P1.x.mep : Int), .slice P1.MA P1.x.mem.length P1.mc, .int .u64 (P1.x.nep : Int), .slice P1.NA P1.x.nem.length P1.nc, .slice P1.CA P1.x.cut.length P1.cc, .slice P1.OA P1.x.objs.length P1.oc, .slice P1.IA P1.x.ints.length P1.ic, .slice P1.SA P1.x.sess.length P1.sc, .slice P1.WA P1.x.wass.length P1.wc, .slice P1.DA P1.x.down.length P1.dc, .int .u64 (P1.x.last : Int)] rfl rfl (Blk.new w13 _ _) rfl Tryz.sizeMet rfl ?_; intro w14 hB1 hO1
       have hs : Below w13.heap.size w13 w14 := ((Below.refl _ _).alloc (Nat.le_refl _) _).trans (hO1.out.below (Nat.le_refl _))
       have HB := Lib.hid (HB.out.trans (hs.mono HB.out.size))
       have HX := Lib.hid (HX.out.below hs HX.out.lt)
       have HY := Lib.hid (HY.out.below hs HY.out.lt)
       have HZ := Lib.hid (HZ.out.below hs HZ.out.lt)
       have Q1 := Lib.hid (Q1.out.below hs Q1.out.lt)
       have Q2 := Lib.hid (Q2.out.below hs Q2.out.lt)
       have K1 := Lib.hid (K1.out.later hs)
       have K2 := Lib.hid (K2.out.later hs)
       have K3 := Lib.hid (K3.out.later hs)
       have K4 := Lib.hid (K4.out.later hs)
       have K5 := Lib.hid (K5.out.later hs)
       have Q3 := hB1
       clear hs hO1 hB1))
  clear HI HQ HRR HDN Ey1 Ey2 Ey3 Ey4
  as_aux_lemma =>
  go_wp2_with (first
    | (refine wpl_wanted (by rfl) (wp_load_blk' 33 (.tmp 18) rfl w9.heap.size 33 #[.int .i64 cx.kind, .int .u64 (cx.client : Int), .int .u64 (cx.seq : Int), .string (strOf cx.key), .int .i64 cx.size, .int .u32 (cx.sum : Int), .int .u64 (cx.version : Int), .int .u64 (cx.epoch : Int), .int .i64 cx.group, .int .i64 cx.node, .bool cx.up, .int .u64 (cx.id.ver : Int), .int .i64 cx.id.idx, .int .u64 (cx.id.ep : Int), .int .u64 (cx.mep : Int), .slice B1 cx.mem.length d1] _ rfl Q1.out Tryz.underlying33 rfl Tryz.sizeC ?_))
    | (refine wpl_wanted (by rfl) (wp_load_blk' 33 (.tmp 6) rfl b0 33 #[.int .i64 cx.kind, .int .u64 (cx.client : Int), .int .u64 (cx.seq : Int), .string (strOf cx.key), .int .i64 cx.size, .int .u32 (cx.sum : Int), .int .u64 (cx.version : Int), .int .u64 (cx.epoch : Int), .int .i64 cx.group, .int .i64 cx.node, .bool cx.up, .int .u64 (cx.id.ver : Int), .int .i64 cx.id.idx, .int .u64 (cx.id.ep : Int), .int .u64 (cx.mep : Int), .slice CA cx.mem.length cc] _ rfl HX.out Tryz.underlying33 rfl Tryz.sizeC ?_))
    | (go_at_call 18; refine (same_cmd B1 d1 cx CA cc w14 K1 (Lib.hid (hC.out.later HB.out)) HCO.out).mono ?_; rintro e w15 ⟨rfl, hb⟩
       have HB := Lib.hid (HB.out.trans (hb.mono HB.out.size))
       have HY := Lib.hid (HY.out.below hb HY.out.lt)
       have HZ := Lib.hid (HZ.out.below hb HZ.out.lt)
       have Q2 := Lib.hid (Q2.out.below hb Q2.out.lt)
       have Q3 := Lib.hid (Q3.out.below hb Q3.out.lt)
       have K2 := Lib.hid (K2.out.later hb)
       have K3 := Lib.hid (K3.out.later hb)
       have K4 := Lib.hid (K4.out.later hb)
       have K5 := Lib.hid (K5.out.later hb)
       clear hb K1 Q1 HX)
    | (refine wpl_wanted (by rfl) (wp_load_blk' 38 (.tmp 21) rfl w11.heap.size 38 #[.int .u64 (em.x.index : Int), .int .u64 (em.x.term : Int), .int .i64 em.x.kind, .int .i64 em.x.cmd.kind, .int .u64 (em.x.cmd.client : Int), .int .u64 (em.x.cmd.seq : Int), .string (strOf em.x.cmd.key), .int .i64 em.x.cmd.size, .int .u32 (em.x.cmd.sum : Int), .int .u64 (em.x.cmd.version : Int), .int .u64 (em.x.cmd.epoch : Int), .int .i64 em.x.cmd.group, .int .i64 em.x.cmd.node, .bool em.x.cmd.up, .int .u64 (em.x.cmd.id.ver : Int), .int .i64 em.x.cmd.id.idx, .int .u64 (em.x.cmd.id.ep : Int), .int .u64 (em.x.cmd.mep : Int), .slice B2 em.x.cmd.mem.length d2, .slice B3 em.x.voters.length d3, .slice B4 em.x.learners.length d4] _ rfl Q2.out Tryz.underlying38 rfl Tryz.sizeE ?_))
    | (refine wpl_wanted (by rfl) (wp_build1 (.tmp 226) rfl #[.int .u64 (em.x.index : Int), .int .u64 (em.x.term : Int), .int .i64 em.x.kind, .int .i64 em.x.cmd.kind, .int .u64 (em.x.cmd.client : Int), .int .u64 (em.x.cmd.seq : Int), .string (strOf em.x.cmd.key), .int .i64 em.x.cmd.size, .int .u32 (em.x.cmd.sum : Int), .int .u64 (em.x.cmd.version : Int), .int .u64 (em.x.cmd.epoch : Int), .int .i64 em.x.cmd.group, .int .i64 em.x.cmd.node, .bool em.x.cmd.up, .int .u64 (em.x.cmd.id.ver : Int), .int .i64 em.x.cmd.id.idx, .int .u64 (em.x.cmd.id.ep : Int), .int .u64 (em.x.cmd.mep : Int), .slice B2 em.x.cmd.mem.length d2, .slice B3 em.x.voters.length d3, .slice B4 em.x.learners.length d4] rfl rfl ?_)
       obtain ⟨w16, ew⟩ : ∃ w16, w15.alloc (.cells #[.int .u64 (em.x.index : Int), .int .u64 (em.x.term : Int), .int .i64 em.x.kind, .int .i64 em.x.cmd.kind, .int .u64 (em.x.cmd.client : Int), .int .u64 (em.x.cmd.seq : Int), .string (strOf em.x.cmd.key), .int .i64 em.x.cmd.size, .int .u32 (em.x.cmd.sum : Int), .int .u64 (em.x.cmd.version : Int), .int .u64 (em.x.cmd.epoch : Int), .int .i64 em.x.cmd.group, .int .i64 em.x.cmd.node, .bool em.x.cmd.up, .int .u64 (em.x.cmd.id.ver : Int), .int .i64 em.x.cmd.id.idx, .int .u64 (em.x.cmd.id.ep : Int), .int .u64 (em.x.cmd.mep : Int), .slice B2 em.x.cmd.mem.length d2, .slice B3 em.x.voters.length d3, .slice B4 em.x.learners.length d4] 38) = w16 := ⟨_, rfl⟩
       have hs : Below w15.heap.size w15 (w15.alloc (.cells #[.int .u64 (em.x.index : Int), .int .u64 (em.x.term : Int), .int .i64 em.x.kind, .int .i64 em.x.cmd.kind, .int .u64 (em.x.cmd.client : Int), .int .u64 (em.x.cmd.seq : Int), .string (strOf em.x.cmd.key), .int .i64 em.x.cmd.size, .int .u32 (em.x.cmd.sum : Int), .int .u64 (em.x.cmd.version : Int), .int .u64 (em.x.cmd.epoch : Int), .int .i64 em.x.cmd.group, .int .i64 em.x.cmd.node, .bool em.x.cmd.up, .int .u64 (em.x.cmd.id.ver : Int), .int .i64 em.x.cmd.id.idx, .int .u64 (em.x.cmd.id.ep : Int), .int .u64 (em.x.cmd.mep : Int), .slice B2 em.x.cmd.mem.length d2, .slice B3 em.x.voters.length d3, .slice B4 em.x.learners.length d4] 38)) := (Below.refl _ _).alloc (Nat.le_refl _) _
       have hg : Blk (w15.alloc (.cells #[.int .u64 (em.x.index : Int), .int .u64 (em.x.term : Int), .int .i64 em.x.kind, .int .i64 em.x.cmd.kind, .int .u64 (em.x.cmd.client : Int), .int .u64 (em.x.cmd.seq : Int), .string (strOf em.x.cmd.key), .int .i64 em.x.cmd.size, .int .u32 (em.x.cmd.sum : Int), .int .u64 (em.x.cmd.version : Int), .int .u64 (em.x.cmd.epoch : Int), .int .i64 em.x.cmd.group, .int .i64 em.x.cmd.node, .bool em.x.cmd.up, .int .u64 (em.x.cmd.id.ver : Int), .int .i64 em.x.cmd.id.idx, .int .u64 (em.x.cmd.id.ep : Int), .int .u64 (em.x.cmd.mep : Int), .slice B2 em.x.cmd.mem.length d2, .slice B3 em.x.voters.length d3, .slice B4 em.x.learners.length d4] 38)) w15.heap.size 38 #[.int .u64 (em.x.index : Int), .int .u64 (em.x.term : Int), .int .i64 em.x.kind, .int .i64 em.x.cmd.kind, .int .u64 (em.x.cmd.client : Int), .int .u64 (em.x.cmd.seq : Int), .string (strOf em.x.cmd.key), .int .i64 em.x.cmd.size, .int .u32 (em.x.cmd.sum : Int), .int .u64 (em.x.cmd.version : Int), .int .u64 (em.x.cmd.epoch : Int), .int .i64 em.x.cmd.group, .int .i64 em.x.cmd.node, .bool em.x.cmd.up, .int .u64 (em.x.cmd.id.ver : Int), .int .i64 em.x.cmd.id.idx, .int .u64 (em.x.cmd.id.ep : Int), .int .u64 (em.x.cmd.mep : Int), .slice B2 em.x.cmd.mem.length d2, .slice B3 em.x.voters.length d3, .slice B4 em.x.learners.length d4] := Blk.new w15 _ _
       rw [ew] at hs hg ⊢
       have G1 := Lib.hid hg
       have HB := Lib.hid (HB.out.trans (hs.mono HB.out.size))
       have HY := Lib.hid (HY.out.below hs HY.out.lt)
       have HZ := Lib.hid (HZ.out.below hs HZ.out.lt)
       have Q3 := Lib.hid (Q3.out.below hs Q3.out.lt)
       have K2 := Lib.hid (K2.out.later hs)
       have K3 := Lib.hid (K3.out.later hs)
       have K4 := Lib.hid (K4.out.later hs)
       have K5 := Lib.hid (K5.out.later hs)
       clear Q2
       clear hs hg ew)
    | (refine wpl_wanted (by rfl) (wp_load_blk' 38 (.tmp 7) rfl (b0 + 1) 38 #[.int .u64 (em.x.index : Int), .int .u64 (em.x.term : Int), .int .i64 em.x.kind, .int .i64 em.x.cmd.kind, .int .u64 (em.x.cmd.client : Int), .int .u64 (em.x.cmd.seq : Int), .string (strOf em.x.cmd.key), .int .i64 em.x.cmd.size, .int .u32 (em.x.cmd.sum : Int), .int .u64 (em.x.cmd.version : Int), .int .u64 (em.x.cmd.epoch : Int), .int .i64 em.x.cmd.group, .int .i64 em.x.cmd.node, .bool em.x.cmd.up, .int .u64 (em.x.cmd.id.ver : Int), .int .i64 em.x.cmd.id.idx, .int .u64 (em.x.cmd.id.ep : Int), .int .u64 (em.x.cmd.mep : Int), .slice em.A em.x.cmd.mem.length em.c, .slice em.B em.x.voters.length em.d, .slice em.E em.x.learners.length em.f] _ rfl HY.out Tryz.underlying38 rfl Tryz.sizeE ?_))
    | (refine wpl_wanted (by rfl) (wp_build1 (.tmp 228) rfl #[.int .u64 (em.x.index : Int), .int .u64 (em.x.term : Int), .int .i64 em.x.kind, .int .i64 em.x.cmd.kind, .int .u64 (em.x.cmd.client : Int), .int .u64 (em.x.cmd.seq : Int), .string (strOf em.x.cmd.key), .int .i64 em.x.cmd.size, .int .u32 (em.x.cmd.sum : Int), .int .u64 (em.x.cmd.version : Int), .int .u64 (em.x.cmd.epoch : Int), .int .i64 em.x.cmd.group, .int .i64 em.x.cmd.node, .bool em.x.cmd.up, .int .u64 (em.x.cmd.id.ver : Int), .int .i64 em.x.cmd.id.idx, .int .u64 (em.x.cmd.id.ep : Int), .int .u64 (em.x.cmd.mep : Int), .slice em.A em.x.cmd.mem.length em.c, .slice em.B em.x.voters.length em.d, .slice em.E em.x.learners.length em.f] rfl rfl ?_)
       obtain ⟨w17, ew⟩ : ∃ w17, w16.alloc (.cells #[.int .u64 (em.x.index : Int), .int .u64 (em.x.term : Int), .int .i64 em.x.kind, .int .i64 em.x.cmd.kind, .int .u64 (em.x.cmd.client : Int), .int .u64 (em.x.cmd.seq : Int), .string (strOf em.x.cmd.key), .int .i64 em.x.cmd.size, .int .u32 (em.x.cmd.sum : Int), .int .u64 (em.x.cmd.version : Int), .int .u64 (em.x.cmd.epoch : Int), .int .i64 em.x.cmd.group, .int .i64 em.x.cmd.node, .bool em.x.cmd.up, .int .u64 (em.x.cmd.id.ver : Int), .int .i64 em.x.cmd.id.idx, .int .u64 (em.x.cmd.id.ep : Int), .int .u64 (em.x.cmd.mep : Int), .slice em.A em.x.cmd.mem.length em.c, .slice em.B em.x.voters.length em.d, .slice em.E em.x.learners.length em.f] 38) = w17 := ⟨_, rfl⟩
       have hs : Below w16.heap.size w16 (w16.alloc (.cells #[.int .u64 (em.x.index : Int), .int .u64 (em.x.term : Int), .int .i64 em.x.kind, .int .i64 em.x.cmd.kind, .int .u64 (em.x.cmd.client : Int), .int .u64 (em.x.cmd.seq : Int), .string (strOf em.x.cmd.key), .int .i64 em.x.cmd.size, .int .u32 (em.x.cmd.sum : Int), .int .u64 (em.x.cmd.version : Int), .int .u64 (em.x.cmd.epoch : Int), .int .i64 em.x.cmd.group, .int .i64 em.x.cmd.node, .bool em.x.cmd.up, .int .u64 (em.x.cmd.id.ver : Int), .int .i64 em.x.cmd.id.idx, .int .u64 (em.x.cmd.id.ep : Int), .int .u64 (em.x.cmd.mep : Int), .slice em.A em.x.cmd.mem.length em.c, .slice em.B em.x.voters.length em.d, .slice em.E em.x.learners.length em.f] 38)) := (Below.refl _ _).alloc (Nat.le_refl _) _
       have hg : Blk (w16.alloc (.cells #[.int .u64 (em.x.index : Int), .int .u64 (em.x.term : Int), .int .i64 em.x.kind, .int .i64 em.x.cmd.kind, .int .u64 (em.x.cmd.client : Int), .int .u64 (em.x.cmd.seq : Int), .string (strOf em.x.cmd.key), .int .i64 em.x.cmd.size, .int .u32 (em.x.cmd.sum : Int), .int .u64 (em.x.cmd.version : Int), .int .u64 (em.x.cmd.epoch : Int), .int .i64 em.x.cmd.group, .int .i64 em.x.cmd.node, .bool em.x.cmd.up, .int .u64 (em.x.cmd.id.ver : Int), .int .i64 em.x.cmd.id.idx, .int .u64 (em.x.cmd.id.ep : Int), .int .u64 (em.x.cmd.mep : Int), .slice em.A em.x.cmd.mem.length em.c, .slice em.B em.x.voters.length em.d, .slice em.E em.x.learners.length em.f] 38)) w16.heap.size 38 #[.int .u64 (em.x.index : Int), .int .u64 (em.x.term : Int), .int .i64 em.x.kind, .int .i64 em.x.cmd.kind, .int .u64 (em.x.cmd.client : Int), .int .u64 (em.x.cmd.seq : Int), .string (strOf em.x.cmd.key), .int .i64 em.x.cmd.size, .int .u32 (em.x.cmd.sum : Int), .int .u64 (em.x.cmd.version : Int), .int .u64 (em.x.cmd.epoch : Int), .int .i64 em.x.cmd.group, .int .i64 em.x.cmd.node, .bool em.x.cmd.up, .int .u64 (em.x.cmd.id.ver : Int), .int .i64 em.x.cmd.id.idx, .int .u64 (em.x.cmd.id.ep : Int), .int .u64 (em.x.cmd.mep : Int), .slice em.A em.x.cmd.mem.length em.c, .slice em.B em.x.voters.length em.d, .slice em.E em.x.learners.length em.f] := Blk.new w16 _ _
       rw [ew] at hs hg ⊢
       have G2 := Lib.hid hg
       have HB := Lib.hid (HB.out.trans (hs.mono HB.out.size))
       have HZ := Lib.hid (HZ.out.below hs HZ.out.lt)
       have Q3 := Lib.hid (Q3.out.below hs Q3.out.lt)
       have G1 := Lib.hid (G1.out.below hs G1.out.lt)
       have K2 := Lib.hid (K2.out.later hs)
       have K3 := Lib.hid (K3.out.later hs)
       have K4 := Lib.hid (K4.out.later hs)
       have K5 := Lib.hid (K5.out.later hs)
       clear HY
       clear hs hg ew)
    | (go_at_call 7; refine (same_entry1 w15.heap.size w16.heap.size B2 d2 B3 d3 B4 d4 em.x em.A em.c em.B em.d em.E em.f w17 K2 K3 K4 (Lib.hid (hE.out.r1.later HB.out)) (Lib.hid (hE.out.r2.later HB.out)) (Lib.hid (hE.out.r3.later HB.out)) HEO.out G1 G2).mono ?_; rintro e w18 ⟨rfl, hb⟩
       have HB := Lib.hid (HB.out.trans (hb.mono HB.out.size))
       have HZ := Lib.hid (HZ.out.below hb HZ.out.lt)
       have Q3 := Lib.hid (Q3.out.below hb Q3.out.lt)
       have K5 := Lib.hid (K5.out.later hb)
       clear hb K2 K3 K4 G1 G2)
    | (refine wpl_wanted (by rfl) (wp_load_blk' 53 (.tmp 24) rfl w13.heap.size 53 #[.int .i64 P1.x.k, .int .i64 P1.x.n, .int .i64 P1.x.groups, .int .u64 (P1.x.mep : Int), .slice P1.MA P1.x.mem.length P1.mc, .int .u64 (P1.x.nep : Int), .slice P1.NA P1.x.nem.length P1.nc, .slice P1.CA P1.x.cut.length P1.cc, .slice P1.OA P1.x.objs.length P1.oc, .slice P1.IA P1.x.ints.length P1.ic, .slice P1.SA P1.x.sess.length P1.sc, .slice P1.WA P1.x.wass.length P1.wc, .slice P1.DA P1.x.down.length P1.dc, .int .u64 (P1.x.last : Int)] _ rfl Q3.out Tryz.underlying53 rfl Tryz.sizeMet ?_))
    | (refine wpl_wanted (by rfl) (wp_load_blk' 53 (.tmp 8) rfl (b0 + 1 + 1) 53 #[.int .i64 m.x.k, .int .i64 m.x.n, .int .i64 m.x.groups, .int .u64 (m.x.mep : Int), .slice m.MA m.x.mem.length m.mc, .int .u64 (m.x.nep : Int), .slice m.NA m.x.nem.length m.nc, .slice m.CA m.x.cut.length m.cc, .slice m.OA m.x.objs.length m.oc, .slice m.IA m.x.ints.length m.ic, .slice m.SA m.x.sess.length m.sc, .slice m.WA m.x.wass.length m.wc, .slice m.DA m.x.down.length m.dc, .int .u64 (m.x.last : Int)] _ rfl HZ.out Tryz.underlying53 rfl Tryz.sizeMet ?_))
    | (go_at_call 12; refine (same_meta P1 w18 K5 m E1.out.symm (Lib.hid (hM.out.later HB.out)) (E1.out.symm ▸ HMO.out)).mono ?_; rintro e w19 ⟨rfl, hb⟩
       have HB := Lib.hid (HB.out.trans (hb.mono HB.out.size))
       clear hb K5 Q3 HZ)
    | (go_at_call 14; refine (heads_any w19).mono ?_; rintro e w20 ⟨rfl, hb⟩
       have HB := Lib.hid (HB.out.trans (hb.mono HB.out.size))
       clear hb))
  go_ret
  exact ⟨rfl, HB.out⟩
set_option maxRecDepth 100000 in
theorem walk_PackBack {H : Type} {enc : TypeId × Value → H} {base : Nat} (W : World) (O : Option Addr) (on oc : Nat) (zo : List Int) (ho : Ints .u8 W O on oc zo) (bo : on ≤ 1048576)
    (v1 : Value) (d1 : DataW H) (p1 : List MemPlace) (h1 : DataW.Trod enc Tryz.prog W 0 (fun _ => true) true 33 v1 d1 p1) (k1 : Value.okWide Tryz.prog W .any base 33 v1) (_b1 : Rows.uptoBulk d1 ≤ 1048576)
    (v2 : Value) (d2 : DataW H) (p2 : List MemPlace) (h2 : DataW.Trod enc Tryz.prog W 0 (fun _ => true) true 38 v2 d2 p2) (k2 : Value.okWide Tryz.prog W .any base 38 v2) (_b2 : Rows.uptoBulk d2 ≤ 1048576)
    (v3 : Value) (d3 : DataW H) (p3 : List MemPlace) (h3 : DataW.Trod enc Tryz.prog W 0 (fun _ => true) true 53 v3 d3 p3) (k3 : Value.okWide Tryz.prog W .any base 53 v3) (_b3 : Rows.uptoBulk d3 ≤ 1048576)
    (D : Option Addr) (dn dc : Nat) (zd : List Int) (hd : Ints .u8 W D dn dc zd) (bd : dn ≤ 1048576) :
    Calls Tryz.prog 4 #[.slice O on oc, v1, v2, v3, .slice D dn dc] W fun e w' => e = .returned (.bool true) ∧ Below W.heap.size W w' := by
  obtain ⟨xs, hx, hl, hr, hc, hm⟩ := ho.bytes
  obtain ⟨zs, ex, el, er, ec, em'⟩ := hd.bytes
  obtain ⟨c1, rfl, s1⟩ := Go.WideShapes.okWide_struct Tryz.underlying33 k1
  obtain ⟨c2, rfl, s2⟩ := Go.WideShapes.okWide_struct Tryz.underlying38 k2
  obtain ⟨c3, rfl, s3⟩ := Go.WideShapes.okWide_struct Tryz.underlying53 k3
  obtain ⟨f1, t1⟩ := h1
  obtain ⟨f2, t2⟩ := h2
  obtain ⟨f3, t3⟩ := h3
  obtain ⟨cx, CA, cc, e1, r1, w1⟩ := open_cmd1 (cs := c1.toList) t1
  obtain ⟨em, e2, q2⟩ := open_em1 (cs := c2.toList) t2
  obtain ⟨m, e3, q3, w3⟩ := open_met1 (cs := c3.toList) t3
  have a1 := congrArg List.toArray e1
  have a2 := congrArg List.toArray e2
  have a3 := congrArg List.toArray e3
  simp only [Array.toArray_toList] at a1 a3
  rw [Array.toArray_toList] at a2
  subst a1 a3
  unfold emCs at a2
  simp only [Array.toArray_toList] at a2
  subst a2
  exact back_any O on oc xs CA cc cx em m D dn dc zs W (Lib.hid hr) (Lib.hid bo) (Lib.hid hx) (Lib.hid r1) (Lib.hid w1) (Lib.hid q2) (Lib.hid q3) (Lib.hid w3) (Lib.hid er) (Lib.hid bd) (Lib.hid ex)
namespace packBack
open Go.ChangeShapes Go.WideShapes Go.ChangeAt Go.RowKit
open Go.ChangeMaps (open_string shut_string)
set_option linter.unusedVariables false
theorem own : ownKnob Tryz.prog.godebug = none := by kernel_rfl
theorem laidOut : laidOutB Tryz.prog = true := by kernel_rfl
set_option maxRecDepth 100000 in
theorem contract (H : Type) (enc : TypeId × Value → H) (W : World) (base : Nat) (args : Array Value) (ds gs : List (DataW H)) (before : List MemPlace)
    (hval0 : ∀ (j : Nat) t v, Tryz.f4.params[j]? = some t → args[j]? = some v → Value.okWide Tryz.prog W .any base t v)
    (hW : DataW.Whole enc Tryz.prog Tryz.f4.params.toList Rows.packBackSpec.vars false W args.toList ds gs before) (hk : Rows.uptoSmall H (ds ++ gs) = true) :
    Calls Tryz.prog 4 args W fun e W' => ∃ v, e = .returned v ∧ Rows.packBackSpec.post enc Tryz.prog Tryz.f4 false true false false W args v W' := by
  have hval : ∀ (j : Nat) t v, Tryz.f4.params[j]? = some t → args[j]? = some v → Value.okWide Tryz.prog W .any base t v := hval0
  have hW' := hW
  obtain ⟨p, q, hA0, hV, rfl, hfz, hnd⟩ := hW
  have hA : DataW.TrodAll enc Tryz.prog W 0 (fun _ => true) true Tryz.f4.params.toList args.toList ds p := hA0
  rw [Tryz.params4] at hA hval
  obtain ⟨v0, vs0, d0, ds0, p0, q0, hargs, rfl, rfl, h0, r0⟩ := trodAll_cons hA
  obtain ⟨v1, vs1, d1, ds1, p1, q1, rfl, rfl, rfl, h1, r1⟩ := trodAll_cons r0
  obtain ⟨v2, vs2, d2, ds2, p2, q2, rfl, rfl, rfl, h2, r2⟩ := trodAll_cons r1
  obtain ⟨v3, vs3, d3, ds3, p3, q3, rfl, rfl, rfl, h3, r3⟩ := trodAll_cons r2
  obtain ⟨v4, vs4, d4, ds4, p4, q4, rfl, rfl, rfl, h4, r4⟩ := trodAll_cons r3
  obtain ⟨rfl, rfl, rfl⟩ := trodAll_nil r4
  obtain rfl : args = #[v0, v1, v2, v3, v4] := by cases args; simp_all
  obtain ⟨rfl, rfl⟩ := trodVars_none hV
  have k0 := h0
  have lt0 : ∀ x ∈ p0, x.block < W.heap.size := by obtain ⟨m, hm⟩ := k0; exact DataW.trod_lt m _ _ _ hm
  have k1 := h1
  have lt1 : ∀ x ∈ p1, x.block < W.heap.size := by obtain ⟨m, hm⟩ := k1; exact DataW.trod_lt m _ _ _ hm
  have k2 := h2
  have lt2 : ∀ x ∈ p2, x.block < W.heap.size := by obtain ⟨m, hm⟩ := k2; exact DataW.trod_lt m _ _ _ hm
  have k3 := h3
  have lt3 : ∀ x ∈ p3, x.block < W.heap.size := by obtain ⟨m, hm⟩ := k3; exact DataW.trod_lt m _ _ _ hm
  have k4 := h4
  have lt4 : ∀ x ∈ p4, x.block < W.heap.size := by obtain ⟨m, hm⟩ := k4; exact DataW.trod_lt m _ _ _ hm
  have hk1 := of_decide_eq_true hk
  simp only [List.cons_append, List.nil_append, Rows.uptoBulkAll] at hk1
  obtain ⟨A0, len0, cap0, rfl⟩ := okWide_slice Tryz.underlying22 (hval 0 22 v0 rfl rfl)
  obtain ⟨z0, w0⟩ := open_in_ints Tryz.underlying22 Tryz.underlying5 (by kernel_rfl) h0
  have b0 := ints_small Tryz.underlying22 Tryz.underlying5 (by kernel_rfl) h0 (by omega)
  have b1 : Rows.uptoBulk d1 ≤ 1048576 := by omega
  have b2 : Rows.uptoBulk d2 ≤ 1048576 := by omega
  have b3 : Rows.uptoBulk d3 ≤ 1048576 := by omega
  obtain ⟨A4, len4, cap4, rfl⟩ := okWide_slice Tryz.underlying22 (hval 4 22 v4 rfl rfl)
  obtain ⟨z4, w4⟩ := open_in_ints Tryz.underlying22 Tryz.underlying5 (by kernel_rfl) h4
  have b4 := ints_small Tryz.underlying22 Tryz.underlying5 (by kernel_rfl) h4 (by omega)
  clear hA0 hval0
  refine (walk_PackBack W A0 len0 cap0 z0 w0 b0 v1 d1 p1 h1 (hval 1 33 v1 rfl rfl) b1 v2 d2 p2 h2 (hval 2 38 v2 rfl rfl) b2 v3 d3 p3 h3 (hval 3 53 v3 rfl rfl) b3 A4 len4 cap4 z4 w4 b4).mono fun e W' ⟨he, bel⟩ => ?_
  subst he
  exact ⟨_, rfl, _, _, _, [], _, [], hW', trodAll_mk1 (shut_bool Tryz.underlying4 _), (trodAll_cons_mk (Below.trod laidOut (by kernel_rfl) (of_decide_eq_true (by kernel_rfl)) k0 bel lt0) (trodAll_cons_mk (Below.trod laidOut (by kernel_rfl) (of_decide_eq_true (by kernel_rfl)) k1 bel lt1) (trodAll_cons_mk (Below.trod laidOut (by kernel_rfl) (of_decide_eq_true (by kernel_rfl)) k2 bel lt2) (trodAll_cons_mk (Below.trod laidOut (by kernel_rfl) (of_decide_eq_true (by kernel_rfl)) k3 bel lt3) (trodAll_cons_mk (Below.trod laidOut (by kernel_rfl) (of_decide_eq_true (by kernel_rfl)) k4 bel lt4) trodAll_mk0))))), rfl, bel.frame _, fun h => by cases h⟩
set_option maxRecDepth 100000 in
theorem lifted (os : Os) (started : os.Started) (H : Type) (enc : TypeId × Value → H) (F : Stop.Interp) :
    ReturnsInHanded {} Tryz.checked os 4 .any ((Rows.OpenSpec.upto Rows.packBackSpec).pre6 enc Tryz.prog Tryz.f4 Rows.packBackUptoRow.domain false) (((Rows.OpenSpec.upto Rows.packBackSpec).at F).post enc Tryz.prog Tryz.f4 false true false false) := by
  refine returnsInHanded_of_cond (C := Tryz.checked) (s := Rows.OpenSpec.upto Rows.packBackSpec) (k := Rows.uptoSmall) rfl own started (by kernel_rfl) Tryz.func4
    (OpenSpec.witness (enc := enc) (C := Tryz.checked) (s := Rows.OpenSpec.upto Rows.packBackSpec) (k := Rows.uptoSmall) rfl false ⟨#[], #[.slice none 0 0, .agg #[.int .i64 0, .int .u64 0, .int .u64 0, .string ⟨#[]⟩, .int .i64 0, .int .u32 0, .int .u64 0, .int .u64 0, .int .i64 0, .int .i64 0, .bool false, .int .u64 0, .int .i64 0, .int .u64 0, .int .u64 0, .slice none 0 0], .agg #[.int .u64 0, .int .u64 0, .int .i64 0, .int .i64 0, .int .u64 0, .int .u64 0, .string ⟨#[]⟩, .int .i64 0, .int .u32 0, .int .u64 0, .int .u64 0, .int .i64 0, .int .i64 0, .bool false, .int .u64 0, .int .i64 0, .int .u64 0, .int .u64 0, .slice none 0 0, .slice none 0 0, .slice none 0 0], .agg #[.int .i64 0, .int .i64 0, .int .i64 0, .int .u64 0, .slice none 0 0, .int .u64 0, .slice none 0 0, .slice none 0 0, .slice none 0 0, .slice none 0 0, .slice none 0 0, .slice none 0 0, .slice none 0 0, .int .u64 0], .slice none 0 0], []⟩ 8 (by kernel_rfl) (by kernel_rfl) (by kernel_rfl)
      (x := ([.nil, .agg [.lit (.int .i64 0), .lit (.int .u64 0), .lit (.int .u64 0), .lit (.string []), .lit (.int .i64 0), .lit (.int .u32 0), .lit (.int .u64 0), .lit (.int .u64 0), .lit (.int .i64 0), .lit (.int .i64 0), .lit (.bool false), .agg [.lit (.int .u64 0), .lit (.int .i64 0), .lit (.int .u64 0)], .agg [.lit (.int .u64 0), .nil]], .agg [.lit (.int .u64 0), .lit (.int .u64 0), .lit (.int .i64 0), .agg [.lit (.int .i64 0), .lit (.int .u64 0), .lit (.int .u64 0), .lit (.string []), .lit (.int .i64 0), .lit (.int .u32 0), .lit (.int .u64 0), .lit (.int .u64 0), .lit (.int .i64 0), .lit (.int .i64 0), .lit (.bool false), .agg [.lit (.int .u64 0), .lit (.int .i64 0), .lit (.int .u64 0)], .agg [.lit (.int .u64 0), .nil]], .agg [.nil, .nil]], .agg [.lit (.int .i64 0), .lit (.int .i64 0), .lit (.int .i64 0), .agg [.lit (.int .u64 0), .nil], .agg [.lit (.int .u64 0), .nil], .nil, .nil, .nil, .nil, .nil, .nil, .lit (.int .u64 0)], .nil], [], [])) (by kernel_rfl) rfl (by kernel_rfl)) ?_
  intro W base args ds gs before hval hW _ hk _
  exact contract H enc W base args ds gs before hval hW hk
theorem over : Rows.packBackUptoRow.holds Tryz.pinned (Rows.OpenSpec.upto Rows.packBackSpec) :=
  OpenClaim.holds_of_cond 4 Tryz.f4 rfl rfl rfl rfl rfl rfl rfl ⟨rfl, rfl, rfl, rfl, rfl⟩ rfl rfl rfl rfl rfl (by kernel_rfl) Tryz.func4 (by kernel_rfl)
    (of_decide_eq_true (by kernel_rfl)) (by unfold Func.isWrapper; first | (rw [if_pos (by decide +kernel)]; kernel_rfl) | (rw [if_neg (by decide +kernel)]; exact ⟨rfl, rfl⟩))
    (fun os started H enc _ F => lifted os started H enc F)
/-- THE STATEMENT. -/
theorem proved : Rows.PackBackUptoSaid := over
end packBack
end Go.Proofs.YthgiafjiemiifaaGreat
