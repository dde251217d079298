/-
  WHAT COMES IN: members, maps, commands, configurations, entries. (printed by gen_pai1.py); MESSAGES: what is read, what is put, and that the one undoes the other: plain. (printed by gen_wirm2.py). (joined out of PaI1, WirM2 by shake.py)
-/
import Derived.Deep.Slices
import Derived.Deep.Fields
import Derived.ChangeSame
import Derived.Lib.SmallJoins
import Derived.Test.YtlnneacgllhdhaaGreatDoorWpv21
import Derived.Test.YtlnneacgllhdhaaGreatDoorWpv20
section
namespace Go.Proofs.YtlnneacgllhdhaaGreatDoor
open Go.RowKit OctMath
open Go.ChangeShapes Go.WideShapes Go.Deep
set_option linter.unusedVariables false
set_option linter.unusedSimpArgs false
theorem cons_of {α : Type} {cs : List α} {n : Nat} (h : cs.length = n + 1) : ∃ a t, cs = a :: t ∧ t.length = n := by
  cases cs with
  | nil => simp at h
  | cons a t => exact ⟨a, t, rfl, by simpa using h⟩
theorem nil_of {α : Type} {cs : List α} (h : cs.length = 0) : cs = [] := List.eq_nil_of_length_eq_zero h
theorem nat_u64 {z : Int} (h : (Lit.int .u64 z).wf = true) : ∃ k : Nat, z = (k : Int) ∧ k < 18446744073709551616 := by
  have : 0 ≤ z ∧ z ≤ 18446744073709551615 := by simpa [Lit.wf, IntKind.min, IntKind.max, IntKind.signed, IntKind.bits] using h
  exact ⟨z.toNat, by omega, by omega⟩
theorem nat_u32 {z : Int} (h : (Lit.int .u32 z).wf = true) : ∃ k : Nat, z = (k : Int) ∧ k < 4294967296 := by
  have : 0 ≤ z ∧ z ≤ 4294967295 := by simpa [Lit.wf, IntKind.min, IntKind.max, IntKind.signed, IntKind.bits] using h
  exact ⟨z.toNat, by omega, by omega⟩
theorem int_i64 {z : Int} (h : (Lit.int .i64 z).wf = true) : I64 z := by
  simpa [I64, Lit.wf, IntKind.min, IntKind.max, IntKind.signed, IntKind.bits] using h
section
variable {H : Type} {enc : TypeId × Value → H} {w : World} {base : Nat} {sp : Nat → Bool} {held : Bool}
theorem trod_fld {P : Program} {T : TypeId} {fs : Array Field} {fuel : Nat} {cs : List Value} {x : DataW H × List MemPlace} (hu : P.underlying T = some (.struct fs)) (h : DataW.trod enc P w base sp held fuel T cs = some x) :
    cs.length = P.cellsOf T ∧ ∃ n, ∀ (i o k : Nat) (t : TypeId), (fs[i]?.map fun f => (f.type, f.offset)) = some (t, o) → P.cellsOf t = k → ∃ y, DataW.trod enc P w base sp held n t ((cs.drop o).take k) = some y := by
  obtain ⟨xs, n, rfl, hx, hlen, hxl, hf⟩ := DataW.trod_struct hu h
  refine ⟨hlen, n, fun i o k t hi hc => ?_⟩
  obtain ⟨F, hF, e⟩ := Option.map_eq_some_iff.1 hi
  injection e with e1 e2
  have hil : i < xs.length := by rw [hxl]; exact (Array.getElem?_eq_some_iff.1 hF).1
  have h1 := hf i F hF
  rw [e1, e2, hc, List.getElem?_eq_getElem hil] at h1
  exact ⟨_, h1⟩
theorem open_mem1 {fuel : Nat} {cs : List Value} {x : DataW H × List MemPlace} (h : DataW.trod enc Tryz.prog w base sp held fuel 234 cs = some x) : ∃ y : Int × Int, cs = [iv y.1, iv y.2] ∧ MemOk y := by
  obtain ⟨fs, hu, hk⟩ : ∃ fs : Array Field, Tryz.prog.underlying 234 = some (.struct fs) ∧ (([0, 1] : List Nat).map fun i => fs[i]?.map fun f => (f.type, f.offset)) = [some (3, 0), some (3, 1)] := ⟨_, Tryz.underlying234, by kernel_rfl⟩
  simp only [List.map_cons, List.map_nil, List.cons.injEq, and_true] at hk
  obtain ⟨k0, k1⟩ := hk
  obtain ⟨hlen, n, fld⟩ := trod_fld hu h
  have hl0 : cs.length = 2 := hlen.trans (by kernel_rfl)
  clear hlen
  clear h
  obtain ⟨a0, s0, rfl, hl1⟩ := cons_of hl0
  obtain ⟨a1, s1, rfl, hl2⟩ := cons_of hl1
  obtain rfl := nil_of hl2
  obtain ⟨y0, f0⟩ := fld 0 0 1 _ k0 (by kernel_rfl)
  simp only [List.drop_succ_cons, List.drop_zero, List.take_succ_cons, List.take_zero] at f0
  obtain ⟨y1, f1⟩ := fld 1 1 1 _ k1 (by kernel_rfl)
  simp only [List.drop_succ_cons, List.drop_zero, List.take_succ_cons, List.take_zero] at f1
  clear fld hl0 hl1 hl2
  obtain ⟨z0, e0, -, b0⟩ := DataW.trod_int Tryz.underlying3 f0
  injection e0 with e0
  subst e0
  have b0 := int_i64 b0
  obtain ⟨z1, e1, -, b1⟩ := DataW.trod_int Tryz.underlying3 f1
  injection e1 with e1
  subst e1
  have b1 := int_i64 b1
  exact ⟨(z0, z1), rfl, b0, b1⟩
theorem open_int1 {fuel : Nat} {cs : List Value} {x : DataW H × List MemPlace} (h : DataW.trod enc Tryz.prog w base sp held fuel 3 cs = some x) : ∃ y : Int, cs = [iv y] ∧ I64 y := by
  obtain ⟨z, e, -, b⟩ := DataW.trod_int Tryz.underlying3 h
  exact ⟨z, e, int_i64 b⟩
theorem flat_iv (l : List Int) : l.flatMap (fun y => [iv y]) = l.map iv := by
  induction l with
  | nil => rfl
  | cons a l ih => rw [List.flatMap_cons, ih]; rfl
theorem open_id1 {fuel : Nat} {cs : List Value} {x : DataW H × List MemPlace} (h : DataW.trod enc Tryz.prog w base sp held fuel 29 cs = some x) : ∃ y : IdT, cs = [.int .u64 (y.ver : Int), .int .i64 y.idx, .int .u64 (y.ep : Int)] ∧ IdOk y := by
  obtain ⟨fs, hu, hk⟩ : ∃ fs : Array Field, Tryz.prog.underlying 29 = some (.struct fs) ∧ (([0, 1, 2] : List Nat).map fun i => fs[i]?.map fun f => (f.type, f.offset)) = [some (23, 0), some (3, 1), some (23, 2)] := ⟨_, Tryz.underlying29, by kernel_rfl⟩
  simp only [List.map_cons, List.map_nil, List.cons.injEq, and_true] at hk
  obtain ⟨k0, k1, k2⟩ := hk
  obtain ⟨hlen, n, fld⟩ := trod_fld hu h
  have hl0 : cs.length = 3 := hlen.trans (by kernel_rfl)
  clear hlen
  clear h
  obtain ⟨a0, s0, rfl, hl1⟩ := cons_of hl0
  obtain ⟨a1, s1, rfl, hl2⟩ := cons_of hl1
  obtain ⟨a2, s2, rfl, hl3⟩ := cons_of hl2
  obtain rfl := nil_of hl3
  obtain ⟨y0, f0⟩ := fld 0 0 1 _ k0 (by kernel_rfl)
  simp only [List.drop_succ_cons, List.drop_zero, List.take_succ_cons, List.take_zero] at f0
  obtain ⟨y1, f1⟩ := fld 1 1 1 _ k1 (by kernel_rfl)
  simp only [List.drop_succ_cons, List.drop_zero, List.take_succ_cons, List.take_zero] at f1
  obtain ⟨y2, f2⟩ := fld 2 2 1 _ k2 (by kernel_rfl)
  simp only [List.drop_succ_cons, List.drop_zero, List.take_succ_cons, List.take_zero] at f2
  clear fld hl0 hl1 hl2 hl3
  obtain ⟨z0, e0, -, b0⟩ := DataW.trod_int Tryz.underlying23 f0
  injection e0 with e0
  subst e0
  obtain ⟨z0, rfl, c0⟩ := nat_u64 b0
  obtain ⟨z1, e1, -, b1⟩ := DataW.trod_int Tryz.underlying3 f1
  injection e1 with e1
  subst e1
  have b1 := int_i64 b1
  obtain ⟨z2, e2, -, b2⟩ := DataW.trod_int Tryz.underlying23 f2
  injection e2 with e2
  subst e2
  obtain ⟨z2, rfl, c2⟩ := nat_u64 b2
  exact ⟨⟨z0, z1, z2⟩, rfl, c0, b1, c2⟩
structure CmdW (c : CmdT) : Prop where
  kind : I64 c.kind
  client : c.client < 18446744073709551616
  seq : c.seq < 18446744073709551616
  key : ∀ y ∈ c.key, y < 256
  size : I64 c.size
  sum : c.sum < 4294967296
  version : c.version < 18446744073709551616
  epoch : c.epoch < 18446744073709551616
  group : I64 c.group
  node : I64 c.node
  id : IdOk c.id
  mep : c.mep < 18446744073709551616
  mem : ∀ y ∈ c.mem, MemOk y
theorem CmdW.ok {c : CmdT} (h : CmdW c) (h1 : c.key.length ≤ 1048576) (h2 : c.mem.length ≤ 1048576) : CmdOk c := ⟨h.kind, h.client, h.seq, ⟨h.key, h1⟩, h.size, h.sum, h.version, h.epoch, h.group, h.node, h.id, h.mep, h.mem, h2⟩
structure EntW (x : EntT) : Prop where
  index : x.index < 18446744073709551616
  term : x.term < 18446744073709551616
  kind : I64 x.kind
  cmd : CmdW x.cmd
  vot : ∀ y ∈ x.voters, I64 y
  lea : ∀ y ∈ x.learners, I64 y
theorem EntW.ok {x : EntT} (h : EntW x) (h1 : x.cmd.key.length ≤ 1048576) (h2 : x.cmd.mem.length ≤ 1048576) (h3 : x.voters.length ≤ 1048576) (h4 : x.learners.length ≤ 1048576) : EntOk x := ⟨h.index, h.term, h.kind, h.cmd.ok h1 h2, ⟨h.vot, h3⟩, ⟨h.lea, h4⟩⟩
structure EM where
  x : EntT
  A : Option Addr
  c : Nat
  B : Option Addr
  d : Nat
  E : Option Addr
  f : Nat
def emCs (m : EM) : List Value := (#[.int .u64 (m.x.index : Int), .int .u64 (m.x.term : Int), .int .i64 m.x.kind, .int .i64 m.x.cmd.kind, .int .u64 (m.x.cmd.client : Int), .int .u64 (m.x.cmd.seq : Int), .string (strOf m.x.cmd.key), .int .i64 m.x.cmd.size, .int .u32 (m.x.cmd.sum : Int), .int .u64 (m.x.cmd.version : Int), .int .u64 (m.x.cmd.epoch : Int), .int .i64 m.x.cmd.group, .int .i64 m.x.cmd.node, .bool m.x.cmd.up, .int .u64 (m.x.cmd.id.ver : Int), .int .i64 m.x.cmd.id.idx, .int .u64 (m.x.cmd.id.ep : Int), .int .u64 (m.x.cmd.mep : Int), .slice m.A m.x.cmd.mem.length m.c, .slice m.B m.x.voters.length m.d, .slice m.E m.x.learners.length m.f] : Array Value).toList
structure EmIn (w : World) (m : EM) : Prop where
  r1 : Reads w w.heap.size 2 m.A m.x.cmd.mem.length (mcells m.x.cmd.mem)
  r2 : Reads w w.heap.size 1 m.B m.x.voters.length (m.x.voters.map iv)
  r3 : Reads w w.heap.size 1 m.E m.x.learners.length (m.x.learners.map iv)
  ok : EntW m.x
end
end Go.Proofs.YtlnneacgllhdhaaGreatDoor
end
section
namespace Go.Proofs.YtlnneacgllhdhaaGreatDoor
open Go.RowKit OctMath
set_option linter.unusedVariables false
set_option linter.unusedSimpArgs false
structure MsgT where
  kind : Int
  from_ : Int
  to_ : Int
  term : Nat
  index : Nat
  logTerm : Nat
  commit : Nat
  ctx : Nat
  okf : Bool
  force : Bool
  ents : List EntT
  vot : List Int
  lea : List Int
  head : HdT
  data : List Nat
  client : Nat
  seq : Nat
  op : Int
  key : List Nat
  code : Int
  names : List (List Nat)
def TxtOk (x : List Nat) : Prop := (∀ y ∈ x, y < 256) ∧ x.length ≤ 1048576
structure MsgOk (x : MsgT) : Prop where
  kind : I64 x.kind
  from_ : I64 x.from_
  to_ : I64 x.to_
  term : x.term < 18446744073709551616
  index : x.index < 18446744073709551616
  logTerm : x.logTerm < 18446744073709551616
  commit : x.commit < 18446744073709551616
  ctx : x.ctx < 18446744073709551616
  ents : (∀ y ∈ x.ents, EntOk y) ∧ x.ents.length ≤ 1048576
  conf : IntsOk x.vot ∧ IntsOk x.lea
  head : HdOk x.head
  data : TxtOk x.data
  client : x.client < 18446744073709551616
  seq : x.seq < 18446744073709551616
  op : I64 x.op
  key : TxtOk x.key
  code : I64 x.code
  names : (∀ y ∈ x.names, TxtOk y) ∧ x.names.length ≤ 1048576
def rMsg (bs : List Nat) : Rd MsgT := (rInt bs).bind fun x1 => (rInt bs).bind fun x2 => (rInt bs).bind fun x3 => (rNum bs).bind fun x4 => (rNum bs).bind fun x5 => (rNum bs).bind fun x6 => (rNum bs).bind fun x7 => (rNum bs).bind fun x8 => (rFlag bs).bind fun x9 => (rFlag bs).bind fun x10 => (rList bs (rEnt bs)).bind fun x11 => (rConf bs).bind fun x12 => (rHd bs).bind fun x13 => (rText bs).bind fun x14 => (rNum bs).bind fun x15 => (rNum bs).bind fun x16 => (rInt bs).bind fun x17 => (rText bs).bind fun x18 => (rInt bs).bind fun x19 => (rList bs (rText bs)).bind fun x20 => Rd.pure ⟨x1, x2, x3, x4, x5, x6, x7, x8, x9, x10, x11, x12.1, x12.2, x13, x14, x15, x16, x17, x18, x19, x20⟩
def pMsg (x : MsgT) : List Nat := pInt x.kind ++ (pInt x.from_ ++ (pInt x.to_ ++ (putN x.term ++ (putN x.index ++ (putN x.logTerm ++ (putN x.commit ++ (putN x.ctx ++ (pFlag x.okf ++ (pFlag x.force ++ (pList pEnt x.ents ++ (pConf (x.vot, x.lea) ++ (pHd x.head ++ (pText x.data ++ (putN x.client ++ (putN x.seq ++ (pInt x.op ++ (pText x.key ++ (pInt x.code ++ (pList pText x.names)))))))))))))))))))
theorem pEnt_pos' (x : EntT) : 0 < (pEnt x).length := by unfold pEnt; simp only [List.length_append]; have := putN_pos x.index; omega
theorem pText_pos (x : List Nat) : 0 < (pText x).length := by unfold pText; simp only [List.length_append]; have := putN_pos x.length; omega
theorem got_hd {x : HdT} (h : HdOk x) : Got rHd x (pHd x) := by
  refine (got_id (x := x.id) ⟨h.ver, h.idx, h.ep⟩).bind (f := fun bs x1 => _) ?_
  refine (got_int h.k).bind (f := fun bs x2 => _) ?_
  refine (got_int h.n).bind (f := fun bs x3 => _) ?_
  refine (got_int h.size).bind (f := fun bs x4 => _) ?_
  exact (got_word h.sum).last
theorem got_msg {x : MsgT} (h : MsgOk x) : Got rMsg x (pMsg x) := by
  refine (got_int h.kind).bind (f := fun bs x1 => _) ?_
  refine (got_int h.from_).bind (f := fun bs x2 => _) ?_
  refine (got_int h.to_).bind (f := fun bs x3 => _) ?_
  refine (got_num h.term).bind (f := fun bs x4 => _) ?_
  refine (got_num h.index).bind (f := fun bs x5 => _) ?_
  refine (got_num h.logTerm).bind (f := fun bs x6 => _) ?_
  refine (got_num h.commit).bind (f := fun bs x7 => _) ?_
  refine (got_num h.ctx).bind (f := fun bs x8 => _) ?_
  refine (got_flag x.okf).bind (f := fun bs x9 => _) ?_
  refine (got_flag x.force).bind (f := fun bs x10 => _) ?_
  refine (got_list (one := rEnt) pEnt_pos' h.ents.2 (fun y hy => got_ent (h.ents.1 y hy))).bind (f := fun bs x11 => _) ?_
  refine (got_conf h.conf).bind (f := fun bs x12 => _) ?_
  refine (got_hd h.head).bind (f := fun bs x13 => _) ?_
  refine (got_text h.data.2).bind (f := fun bs x14 => _) ?_
  refine (got_num h.client).bind (f := fun bs x15 => _) ?_
  refine (got_num h.seq).bind (f := fun bs x16 => _) ?_
  refine (got_int h.op).bind (f := fun bs x17 => _) ?_
  refine (got_text h.key.2).bind (f := fun bs x18 => _) ?_
  refine (got_int h.code).bind (f := fun bs x19 => _) ?_
  exact (got_list (one := rText) pText_pos h.names.2 (fun y hy => got_text (h.names.1 y hy).2)).last
end Go.Proofs.YtlnneacgllhdhaaGreatDoor
end
