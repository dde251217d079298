/-
  MESSAGES IN MEMORY; a struct stored in the middle of a block; rows of entries that grow. (joined out of WirG1 by shake.py)
-/
import Derived.Test.YtlnneacgllhdhaaGreatDoorWpv24
import Derived.Test.YtlnneacgllhdhaaGreatDoorWpv25
section
namespace Go.Proofs.YtlnneacgllhdhaaGreatDoor
open Go.RowKit OctMath
set_option linter.unusedVariables false
set_option linter.unusedSimpArgs false
/-! ### Rows of entries -/
def LO (lo : Nat) (v : Value) (size : Nat) (A : Option Addr) (c k : Nat) (xs : List Value) (w : World) : Prop := Lst lo size A c k xs w ∧ Off v k A
theorem LO.grown {lo size c k : Nat} {v v' : Value} {A : Option Addr} {xs : List Value} {w w' : World} (h : LO lo v size A c k xs w) (hg : w.grownBy w' v.ownBlock) (hv : v'.ownBlock = v.ownBlock ∨ v'.ownBlock = some w.heap.size) : LO lo v' size A c k xs w' := by
  obtain ⟨h1, h2⟩ := h
  refine ⟨⟨⟨h1.rd.1, fun hn => ?_⟩, h1.lo, h1.kc, h1.cm⟩, fun hn ad e => ?_⟩
  · obtain ⟨ad, e, hb, hc⟩ := h1.rd.2 hn
    refine ⟨ad, e, by have := hg.size; omega, fun j u hu => ?_⟩
    rw [← hc j u hu]
    refine World.cell?_of_block ?_
    rw [block_of_add]
    exact hg.block _ hb (fun e' => h2 hn ad e e'.symm)
  · have := h1.lt hn e
    rcases hv with hv | hv
    · rw [hv]; exact h2 hn ad e
    · rw [hv]; intro e'; injection e' with e'; omega
theorem LO.keep {lo size c k g : Nat} {v : Value} {A : Option Addr} {xs : List Value} {w w' : World} (h : LO lo v size A c k xs w) (hk : Keep (Not g) w w') (hg : g < lo) : LO lo v size A c k xs w' := ⟨h.1.keep hk hg, h.2⟩
theorem LO.only {lo size c k y : Nat} {v : Value} {A : Option Addr} {xs : List Value} {w w' : World} (h : LO lo v size A c k xs w) (ho : Only y w w') (hy : y < lo) : LO lo v size A c k xs w' := ⟨h.1.only ho (h.1.apart_lo hy), h.2⟩
theorem LO.below {lo size c k : Nat} {v : Value} {A : Option Addr} {xs : List Value} {w w' : World} (h : LO lo v size A c k xs w) (hb : Below w.heap.size w w') : LO lo v size A c k xs w' := ⟨h.1.below hb, h.2⟩
structure SubE (lo : Nat) (v : Value) (m : EM) (w : World) : Prop where
  l1 : LO lo v 2 m.A m.c m.x.cmd.mem.length (mcells m.x.cmd.mem) w
  l2 : LO lo v 1 m.B m.d m.x.voters.length (m.x.voters.map iv) w
  l3 : LO lo v 1 m.E m.f m.x.learners.length (m.x.learners.map iv) w
  ok : EntOk m.x
def Ens (lo : Nat) (v : Value) (ms : List EM) (w : World) : Prop := ∀ m ∈ ms, SubE lo v m w
theorem Ens.nil (lo : Nat) (v : Value) (w : World) : Ens lo v [] w := fun m h => by cases h
theorem Ens.grown {lo : Nat} {v v' : Value} {ms : List EM} {w w' : World} (h : Ens lo v ms w) (hg : w.grownBy w' v.ownBlock) (hv : v'.ownBlock = v.ownBlock ∨ v'.ownBlock = some w.heap.size) : Ens lo v' ms w' := fun m hm => ⟨(h m hm).l1.grown hg hv, (h m hm).l2.grown hg hv, (h m hm).l3.grown hg hv, (h m hm).ok⟩
theorem Ens.keep {lo g : Nat} {v : Value} {ms : List EM} {w w' : World} (h : Ens lo v ms w) (hk : Keep (Not g) w w') (hg : g < lo) : Ens lo v ms w' := fun m hm => ⟨(h m hm).l1.keep hk hg, (h m hm).l2.keep hk hg, (h m hm).l3.keep hk hg, (h m hm).ok⟩
theorem Ens.only {lo y : Nat} {v : Value} {ms : List EM} {w w' : World} (h : Ens lo v ms w) (ho : Only y w w') (hy : y < lo) : Ens lo v ms w' := fun m hm => ⟨(h m hm).l1.only ho hy, (h m hm).l2.only ho hy, (h m hm).l3.only ho hy, (h m hm).ok⟩
theorem Ens.below {lo : Nat} {v : Value} {ms : List EM} {w w' : World} (h : Ens lo v ms w) (hb : Below w.heap.size w w') : Ens lo v ms w' := fun m hm => ⟨(h m hm).l1.below hb, (h m hm).l2.below hb, (h m hm).l3.below hb, (h m hm).ok⟩
theorem Ens.add {lo : Nat} {v : Value} {ms : List EM} {m : EM} {w : World} (h : Ens lo v ms w) (hm : SubE lo v m w) : Ens lo v (ms ++ [m]) w := fun x hx => by
  rcases List.mem_append.1 hx with hx | hx
  · exact h x hx
  · rw [List.mem_singleton.1 hx]; exact hm
theorem sub_of_ent {lo lo2 : Nat} {v u : Value} {x : EntT} {w : World} (h : vEnt lo2 x w u) (hl : lo ≤ lo2) (hv : ∀ k, v.ownBlock = some k → k < lo2) : ∃ m : EM, m.x = x ∧ u = .agg (emCs m).toArray ∧ SubE lo v m w := by
  obtain ⟨A1, c1, A2, c2, A3, c3, rfl, l1, l2, l3, hok⟩ := h
  have off : ∀ {size c k : Nat} {A : Option Addr} {xs : List Value}, Lst lo2 size A c k xs w → Off v k A := fun l h0 ad e e' => by have := l.lo h0 ad e; have := hv _ e'; omega
  exact ⟨⟨x, A1, c1, A2, c2, A3, c3⟩, rfl, rfl, ⟨l1.mono hl, off l1⟩, ⟨l2.mono hl, off l2⟩, ⟨l3.mono hl, off l3⟩, hok⟩
theorem CmdOk.w {x : CmdT} (h : CmdOk x) : CmdW x := ⟨h.kind, h.client, h.seq, h.key.1, h.size, h.sum, h.version, h.epoch, h.group, h.node, h.id, h.map.1, h.map.2.1⟩
theorem EntOk.w {x : EntT} (h : EntOk x) : EntW x := ⟨h.index, h.term, h.kind, h.cmd.w, h.vot.1, h.lea.1⟩
theorem SubE.in_ {lo : Nat} {v : Value} {m : EM} {w : World} (h : SubE lo v m w) : EmIn w m := ⟨h.l1.1.rd, h.l2.1.rd, h.l3.1.rd, h.ok.w⟩
theorem Tryz.infoEnB : (Tryz.prog.info? 79).map (fun i => (i.zero.map (·.cells.size), i.size, i.bytes)) = some (some 21, 21, 224) := by kernel_rfl
theorem Tryz.infoStr : (Tryz.prog.info? 9).map (fun i => (i.zero.map (·.cells.size), i.size, i.bytes)) = some (some 1, 1, 16) := by kernel_rfl
theorem info_parts' {P : Program} {e : TypeId} {k size bytes : Nat} (h : (P.info? e).map (fun i => (i.zero.map (·.cells.size), i.size, i.bytes)) = some (some k, size, bytes)) : ∃ i z, P.info? e = some i ∧ i.zero = some z ∧ z.cells.size = k ∧ i.size = size ∧ i.bytes = bytes := by
  cases q : P.info? e with
  | none => rw [q] at h; cases h
  | some i =>
    rw [q] at h
    simp only [Option.map_some, Option.some.injEq, Prod.mk.injEq] at h
    obtain ⟨h1, h2, h3⟩ := h
    obtain ⟨z, q2, hz⟩ := Option.map_eq_some_iff.1 h1
    exact ⟨i, z, rfl, q2, hz, h2, h3⟩
theorem own_keep {w w' : World} {base size n g : Nat} {t : TypeId} {v : Value} {xs : List Value} (h : w.ownsRow base t size v n xs) (hk : Keep (Not g) w w') (hg : g < base) : w'.ownsRow base t size v n xs :=
  h.kept (row := some g) ⟨hk.os, hk.tape, hk.output, hk.size, fun b hb hne => hk.block b (fun e => hne (by rw [e])) hb⟩ (.inr (own_apart h hg))
theorem own_lt {w : World} {base size n : Nat} {t : TypeId} {v : Value} {xs : List Value} (h : w.ownsRow base t size v n xs) {k : Nat} (e : v.ownBlock = some k) : base ≤ k ∧ k < w.heap.size := ⟨(h.lt k e).1, (h.lt k e).2⟩
/-! ### Messages in memory -/
structure MG where
  x : MsgT
  es : List EM
  Ae : Option Addr
  ce : Nat
  Av : Option Addr
  cv : Nat
  Al : Option Addr
  cl : Nat
  Ad : Option Addr
  cd : Nat
  An : Option Addr
  cn : Nat
def mgA (x : MsgT) (ne : Nat) (Ae : Option Addr) (ce : Nat) (Av : Option Addr) (cv : Nat) (Al : Option Addr) (cl : Nat) (Ad : Option Addr) (cd : Nat) (An : Option Addr) (cn : Nat) : Array Value :=
  #[.int .i64 x.kind, .int .i64 x.from_, .int .i64 x.to_, .int .u64 (x.term : Int), .int .u64 (x.index : Int), .int .u64 (x.logTerm : Int), .int .u64 (x.commit : Int), .int .u64 (x.ctx : Int), .bool x.okf, .bool x.force,
    .slice Ae ne ce, .slice Av x.vot.length cv, .slice Al x.lea.length cl, .int .u64 (x.head.id.ver : Int), .int .i64 x.head.id.idx, .int .u64 (x.head.id.ep : Int), .int .i64 x.head.k, .int .i64 x.head.n, .int .i64 x.head.size, .int .u32 (x.head.sum : Int),
    .slice Ad x.data.length cd, .int .u64 (x.client : Int), .int .u64 (x.seq : Int), .int .i64 x.op, .string (strOf x.key), .int .i64 x.code, .slice An x.names.length cn]
def mgCs (m : MG) : Array Value := mgA m.x m.es.length m.Ae m.ce m.Av m.cv m.Al m.cl m.Ad m.cd m.An m.cn
structure MsgW (x : MsgT) : Prop where
  kind : I64 x.kind
  from_ : I64 x.from_
  to_ : I64 x.to_
  term : x.term < 18446744073709551616
  index : x.index < 18446744073709551616
  logTerm : x.logTerm < 18446744073709551616
  commit : x.commit < 18446744073709551616
  ctx : x.ctx < 18446744073709551616
  ents : ∀ y ∈ x.ents, EntW y
  vot : ∀ y ∈ x.vot, I64 y
  lea : ∀ y ∈ x.lea, I64 y
  head : HdOk x.head
  data : Byt x.data
  client : x.client < 18446744073709551616
  seq : x.seq < 18446744073709551616
  op : I64 x.op
  key : Byt x.key
  code : I64 x.code
  names : ∀ y ∈ x.names, Byt y
def stv (s : List Nat) : Value := .string (strOf s)
structure MgIn (w : World) (m : MG) : Prop where
  ents : Reads w w.heap.size 21 m.Ae m.es.length (m.es.flatMap emCs)
  each : ∀ e ∈ m.es, EmIn w e
  eq : m.x.ents = m.es.map (·.x)
  vot : Reads w w.heap.size 1 m.Av m.x.vot.length (m.x.vot.map iv)
  lea : Reads w w.heap.size 1 m.Al m.x.lea.length (m.x.lea.map iv)
  data : Reads w w.heap.size 1 m.Ad m.x.data.length (m.x.data.map bv)
  names : Reads w w.heap.size 1 m.An m.x.names.length (m.x.names.map stv)
  ok : MsgW m.x
end Go.Proofs.YtlnneacgllhdhaaGreatDoor
end
