/-
  MESSAGES: what is read, what is put, and that the one undoes the other: plain. (printed by gen_wirm2.py). (joined out of WirM2 by shake.py)
-/
import Derived.Test.YtlnneacgllhdhaaGreatDoorWbk21
import Derived.Test.YtlnneacgllhdhaaGreatDoorWbk20
section
namespace Go.Proofs.YtlnneacgllhdhaaGreatDoor
open Go.RowKit OctMath
set_option linter.unusedVariables false
set_option linter.unusedSimpArgs false
structure MsgT where
  kind : Int
  from_ : Int
  to_ : Int
  term : Nat
  index : Nat
  logTerm : Nat
  commit : Nat
  ctx : Nat
  okf : Bool
  force : Bool
  ents : List EntT
  vot : List Int
  lea : List Int
  head : HdT
  data : List Nat
  client : Nat
  seq : Nat
  op : Int
  key : List Nat
  code : Int
  names : List (List Nat)
def TxtOk (x : List Nat) : Prop := (∀ y ∈ x, y < 256) ∧ x.length ≤ 1048576
structure MsgOk (x : MsgT) : Prop where
  kind : I64 x.kind
  from_ : I64 x.from_
  to_ : I64 x.to_
  term : x.term < 18446744073709551616
  index : x.index < 18446744073709551616
  logTerm : x.logTerm < 18446744073709551616
  commit : x.commit < 18446744073709551616
  ctx : x.ctx < 18446744073709551616
  ents : (∀ y ∈ x.ents, EntOk y) ∧ x.ents.length ≤ 1048576
  conf : IntsOk x.vot ∧ IntsOk x.lea
  head : HdOk x.head
  data : TxtOk x.data
  client : x.client < 18446744073709551616
  seq : x.seq < 18446744073709551616
  op : I64 x.op
  key : TxtOk x.key
  code : I64 x.code
  names : (∀ y ∈ x.names, TxtOk y) ∧ x.names.length ≤ 1048576
def rMsg (bs : List Nat) : Rd MsgT := (rInt bs).bind fun x1 => (rInt bs).bind fun x2 => (rInt bs).bind fun x3 => (rNum bs).bind fun x4 => (rNum bs).bind fun x5 => (rNum bs).bind fun x6 => (rNum bs).bind fun x7 => (rNum bs).bind fun x8 => (rFlag bs).bind fun x9 => (rFlag bs).bind fun x10 => (rList bs (rEnt bs)).bind fun x11 => (rConf bs).bind fun x12 => (rHd bs).bind fun x13 => (rText bs).bind fun x14 => (rNum bs).bind fun x15 => (rNum bs).bind fun x16 => (rInt bs).bind fun x17 => (rText bs).bind fun x18 => (rInt bs).bind fun x19 => (rList bs (rText bs)).bind fun x20 => Rd.pure ⟨x1, x2, x3, x4, x5, x6, x7, x8, x9, x10, x11, x12.1, x12.2, x13, x14, x15, x16, x17, x18, x19, x20⟩
def pMsg (x : MsgT) : List Nat := pInt x.kind ++ (pInt x.from_ ++ (pInt x.to_ ++ (putN x.term ++ (putN x.index ++ (putN x.logTerm ++ (putN x.commit ++ (putN x.ctx ++ (pFlag x.okf ++ (pFlag x.force ++ (pList pEnt x.ents ++ (pConf (x.vot, x.lea) ++ (pHd x.head ++ (pText x.data ++ (putN x.client ++ (putN x.seq ++ (pInt x.op ++ (pText x.key ++ (pInt x.code ++ (pList pText x.names)))))))))))))))))))
theorem pEnt_pos' (x : EntT) : 0 < (pEnt x).length := by unfold pEnt; simp only [List.length_append]; have := putN_pos x.index; omega
theorem pText_pos (x : List Nat) : 0 < (pText x).length := by unfold pText; simp only [List.length_append]; have := putN_pos x.length; omega
theorem got_hd {x : HdT} (h : HdOk x) : Got rHd x (pHd x) := by
  refine (got_id (x := x.id) ⟨h.ver, h.idx, h.ep⟩).bind (f := fun bs x1 => _) ?_
  refine (got_int h.k).bind (f := fun bs x2 => _) ?_
  refine (got_int h.n).bind (f := fun bs x3 => _) ?_
  refine (got_int h.size).bind (f := fun bs x4 => _) ?_
  exact (got_word h.sum).last
theorem got_msg {x : MsgT} (h : MsgOk x) : Got rMsg x (pMsg x) := by
  refine (got_int h.kind).bind (f := fun bs x1 => _) ?_
  refine (got_int h.from_).bind (f := fun bs x2 => _) ?_
  refine (got_int h.to_).bind (f := fun bs x3 => _) ?_
  refine (got_num h.term).bind (f := fun bs x4 => _) ?_
  refine (got_num h.index).bind (f := fun bs x5 => _) ?_
  refine (got_num h.logTerm).bind (f := fun bs x6 => _) ?_
  refine (got_num h.commit).bind (f := fun bs x7 => _) ?_
  refine (got_num h.ctx).bind (f := fun bs x8 => _) ?_
  refine (got_flag x.okf).bind (f := fun bs x9 => _) ?_
  refine (got_flag x.force).bind (f := fun bs x10 => _) ?_
  refine (got_list (one := rEnt) pEnt_pos' h.ents.2 (fun y hy => got_ent (h.ents.1 y hy))).bind (f := fun bs x11 => _) ?_
  refine (got_conf h.conf).bind (f := fun bs x12 => _) ?_
  refine (got_hd h.head).bind (f := fun bs x13 => _) ?_
  refine (got_text h.data.2).bind (f := fun bs x14 => _) ?_
  refine (got_num h.client).bind (f := fun bs x15 => _) ?_
  refine (got_num h.seq).bind (f := fun bs x16 => _) ?_
  refine (got_int h.op).bind (f := fun bs x17 => _) ?_
  refine (got_text h.key.2).bind (f := fun bs x18 => _) ?_
  refine (got_int h.code).bind (f := fun bs x19 => _) ?_
  exact (got_list (one := rText) pText_pos h.names.2 (fun y hy => got_text (h.names.1 y hy).2)).last
end Go.Proofs.YtlnneacgllhdhaaGreatDoor
end
