/-
  THE REFERENCE'S WRITER OF A MESSAGE; the same messages. (printed by gen_wirq2.py). (joined out of WirQ2 by shake.py)
-/
import Derived.Test.YtijdbdenmcjmmaaGreatDoorNen26
import Derived.Test.YtijdbdenmcjmmaaGreatDoorNen24
section
namespace Go.Proofs.YtijdbdenmcjmmaaGreatDoor
open Go.RowKit OctMath
set_option linter.unusedVariables false
set_option linter.unusedSimpArgs false
structure MgL (g hi : Nat) (m : MG) (w : World) : Prop where
  ents : Ls (wMd g) 21 m.Ae m.es.length (m.es.flatMap emCs) w
  each : EmsL g hi m.es w
  vot : Ls (wMd g) 1 m.Av m.x.vot.length (m.x.vot.map iv) w
  lea : Ls (wMd g) 1 m.Al m.x.lea.length (m.x.lea.map iv) w
  data : Ls (wMd g) 1 m.Ad m.x.data.length (m.x.data.map bv) w
  names : Ls (wMd g) 1 m.An m.x.names.length (m.x.names.map stv) w
theorem pw_bytes (g : Nat) (s : List Nat) (E : Option Addr) (em ec : Nat) (ys : List Nat) (w : World) (hS : Hid ((wMd g).St s w)) (hE : Hid (Reads w w.heap.size 1 E em (ys.map bv))) (hm : em ≤ 1048576) (hl : s.length ≤ 70000000000000) :
    Calls Tryz.prog 65 #[.pointer (some ⟨g, 0, none⟩), .slice E em ec] w (RetP (wMd g) (s ++ (putN em ++ ys)) (.slice E em ec) w) := by
  obtain ⟨a, b⟩ := wMd_pen hS.out
  exact (pen_bytes _ g s E em ec ys w a b hE (by omega) hl).mono fun _ _ r => wMd_ret hS.out r
def RetFl (g : Nat) (zs : List Nat) (w : World) (e : Ending) (w' : World) : Prop := (∃ v, e = .returned v) ∧ (wMd g).St zs w' ∧ Stp (wMd g) w w'
set_option maxRecDepth 100000 in
set_option maxHeartbeats 16000000 in
theorem pw_fields (g : Nat) (ys : List Nat) (m : MG) (w : World) (hS : Hid ((wMd g).St ys w)) (hU : Hid (MgL g w.heap.size m w)) (hEQ : Hid (m.x.ents = m.es.map (·.x))) (hO : Hid (MsgOk m.x)) (hf : Hid (ys.length ≤ 1000000000000)) :
    Calls Tryz.prog 40 #[.pointer (some ⟨g, 0, none⟩), .agg (mgCs m)] w (RetFl g (ys ++ pMsg m.x) w) := by
  obtain ⟨x, es, Ae, ce, Av, cv, Al, cl, Ad, cd, An, cn⟩ := m
  have he0 : mgCs ⟨x, es, Ae, ce, Av, cv, Al, cl, Ad, cd, An, cn⟩ = #[.int .i64 x.kind, .int .i64 x.from_, .int .i64 x.to_, .int .u64 (x.term : Int), .int .u64 (x.index : Int), .int .u64 (x.logTerm : Int), .int .u64 (x.commit : Int), .int .u64 (x.ctx : Int), .bool x.okf, .bool x.force, .slice Ae es.length ce, .slice Av x.vot.length cv, .slice Al x.lea.length cl, .int .u64 (x.head.id.ver : Int), .int .i64 x.head.id.idx, .int .u64 (x.head.id.ep : Int), .int .i64 x.head.k, .int .i64 x.head.n, .int .i64 x.head.size, .int .u32 (x.head.sum : Int), .slice Ad x.data.length cd, .int .u64 (x.client : Int), .int .u64 (x.seq : Int), .int .i64 x.op, .string (strOf x.key), .int .i64 x.code, .slice An x.names.length cn] := rfl
  rw [he0]
  clear he0
  have hO : Hid (MsgOk x) := hO
  have HEQ : Hid (x.ents = es.map (·.x)) := hEQ
  have HEL : Hid (es.length ≤ 1048576) := Lh (by have := hO.out.ents.2; rw [HEQ.out, List.length_map] at this; exact this)
  have HEO := Lh (em_mem_ok hO.out HEQ.out)
  have hM := Lh (wMd_ok g)
  have HE : Hid (Ls (wMd g) 21 Ae es.length (es.flatMap emCs) w) := Lh hU.out.ents
  have HEI : Hid (EmsL g w.heap.size es w) := Lh hU.out.each
  have HV : Hid (Ls (wMd g) 1 Av x.vot.length (x.vot.map iv) w) := Lh hU.out.vot
  have HLe : Hid (Ls (wMd g) 1 Al x.lea.length (x.lea.map iv) w) := Lh hU.out.lea
  have HD : Hid (Ls (wMd g) 1 Ad x.data.length (x.data.map bv) w) := Lh hU.out.data
  have HN : Hid (Ls (wMd g) 1 An x.names.length (x.names.map stv) w) := Lh hU.out.names
  clear hU hEQ
  have HE0 := Lh (show 0 < es.length → ∀ ad, Ae = some ad → ad.block < w.heap.size from fun h0 ad e => (HE.out.free h0 ad e).lt)
  have HV0 := Lh (show 0 < x.vot.length → ∀ ad, Av = some ad → ad.block < w.heap.size from fun h0 ad e => (HV.out.free h0 ad e).lt)
  have HLe0 := Lh (show 0 < x.lea.length → ∀ ad, Al = some ad → ad.block < w.heap.size from fun h0 ad e => (HLe.out.free h0 ad e).lt)
  have HD0 := Lh (show 0 < x.data.length → ∀ ad, Ad = some ad → ad.block < w.heap.size from fun h0 ad e => (HD.out.free h0 ad e).lt)
  have HN0 := Lh (show 0 < x.names.length → ∀ ad, An = some ad → ad.block < w.heap.size from fun h0 ad e => (HN.out.free h0 ad e).lt)
  obtain ⟨w0, ew0⟩ : ∃ w0, w.alloc (.cells #[.int .i64 x.kind, .int .i64 x.from_, .int .i64 x.to_, .int .u64 (x.term : Int), .int .u64 (x.index : Int), .int .u64 (x.logTerm : Int), .int .u64 (x.commit : Int), .int .u64 (x.ctx : Int), .bool x.okf, .bool x.force, .slice Ae es.length ce, .slice Av x.vot.length cv, .slice Al x.lea.length cl, .int .u64 (x.head.id.ver : Int), .int .i64 x.head.id.idx, .int .u64 (x.head.id.ep : Int), .int .i64 x.head.k, .int .i64 x.head.n, .int .i64 x.head.size, .int .u32 (x.head.sum : Int), .slice Ad x.data.length cd, .int .u64 (x.client : Int), .int .u64 (x.seq : Int), .int .i64 x.op, .string (strOf x.key), .int .i64 x.code, .slice An x.names.length cn] 38) = w0 := ⟨_, rfl⟩
  obtain ⟨w1, ew1⟩ : ∃ w1, w0.alloc (.cells #[.int .i64 0, .int .i64 0, .int .i64 0, .int .u64 0, .int .u64 0, .int .u64 0, .int .u64 0, .int .u64 0, .bool false, .bool false, .slice none 0 0, .slice none 0 0, .slice none 0 0, .int .u64 0, .int .i64 0, .int .u64 0, .int .i64 0, .int .i64 0, .int .i64 0, .int .u32 0, .slice none 0 0, .int .u64 0, .int .u64 0, .int .i64 0, .string ⟨#[]⟩, .int .i64 0, .slice none 0 0] 38) = w1 := ⟨_, rfl⟩
  have k0 := Wk.start hS.out
  have x0 := Bk.new hM.out k0 #[.int .i64 x.kind, .int .i64 x.from_, .int .i64 x.to_, .int .u64 (x.term : Int), .int .u64 (x.index : Int), .int .u64 (x.logTerm : Int), .int .u64 (x.commit : Int), .int .u64 (x.ctx : Int), .bool x.okf, .bool x.force, .slice Ae es.length ce, .slice Av x.vot.length cv, .slice Al x.lea.length cl, .int .u64 (x.head.id.ver : Int), .int .i64 x.head.id.idx, .int .u64 (x.head.id.ep : Int), .int .i64 x.head.k, .int .i64 x.head.n, .int .i64 x.head.size, .int .u32 (x.head.sum : Int), .slice Ad x.data.length cd, .int .u64 (x.client : Int), .int .u64 (x.seq : Int), .int .i64 x.op, .string (strOf x.key), .int .i64 x.code, .slice An x.names.length cn] 38
  have k1 := k0.alloc hM.out (.cells #[.int .i64 x.kind, .int .i64 x.from_, .int .i64 x.to_, .int .u64 (x.term : Int), .int .u64 (x.index : Int), .int .u64 (x.logTerm : Int), .int .u64 (x.commit : Int), .int .u64 (x.ctx : Int), .bool x.okf, .bool x.force, .slice Ae es.length ce, .slice Av x.vot.length cv, .slice Al x.lea.length cl, .int .u64 (x.head.id.ver : Int), .int .i64 x.head.id.idx, .int .u64 (x.head.id.ep : Int), .int .i64 x.head.k, .int .i64 x.head.n, .int .i64 x.head.size, .int .u32 (x.head.sum : Int), .slice Ad x.data.length cd, .int .u64 (x.client : Int), .int .u64 (x.seq : Int), .int .i64 x.op, .string (strOf x.key), .int .i64 x.code, .slice An x.names.length cn] 38)
  have HE := Lh (HE.out.alloc hM.out hS.out (.cells #[.int .i64 x.kind, .int .i64 x.from_, .int .i64 x.to_, .int .u64 (x.term : Int), .int .u64 (x.index : Int), .int .u64 (x.logTerm : Int), .int .u64 (x.commit : Int), .int .u64 (x.ctx : Int), .bool x.okf, .bool x.force, .slice Ae es.length ce, .slice Av x.vot.length cv, .slice Al x.lea.length cl, .int .u64 (x.head.id.ver : Int), .int .i64 x.head.id.idx, .int .u64 (x.head.id.ep : Int), .int .i64 x.head.k, .int .i64 x.head.n, .int .i64 x.head.size, .int .u32 (x.head.sum : Int), .slice Ad x.data.length cd, .int .u64 (x.client : Int), .int .u64 (x.seq : Int), .int .i64 x.op, .string (strOf x.key), .int .i64 x.code, .slice An x.names.length cn] 38))
  have HV := Lh (HV.out.alloc hM.out hS.out (.cells #[.int .i64 x.kind, .int .i64 x.from_, .int .i64 x.to_, .int .u64 (x.term : Int), .int .u64 (x.index : Int), .int .u64 (x.logTerm : Int), .int .u64 (x.commit : Int), .int .u64 (x.ctx : Int), .bool x.okf, .bool x.force, .slice Ae es.length ce, .slice Av x.vot.length cv, .slice Al x.lea.length cl, .int .u64 (x.head.id.ver : Int), .int .i64 x.head.id.idx, .int .u64 (x.head.id.ep : Int), .int .i64 x.head.k, .int .i64 x.head.n, .int .i64 x.head.size, .int .u32 (x.head.sum : Int), .slice Ad x.data.length cd, .int .u64 (x.client : Int), .int .u64 (x.seq : Int), .int .i64 x.op, .string (strOf x.key), .int .i64 x.code, .slice An x.names.length cn] 38))
  have HLe := Lh (HLe.out.alloc hM.out hS.out (.cells #[.int .i64 x.kind, .int .i64 x.from_, .int .i64 x.to_, .int .u64 (x.term : Int), .int .u64 (x.index : Int), .int .u64 (x.logTerm : Int), .int .u64 (x.commit : Int), .int .u64 (x.ctx : Int), .bool x.okf, .bool x.force, .slice Ae es.length ce, .slice Av x.vot.length cv, .slice Al x.lea.length cl, .int .u64 (x.head.id.ver : Int), .int .i64 x.head.id.idx, .int .u64 (x.head.id.ep : Int), .int .i64 x.head.k, .int .i64 x.head.n, .int .i64 x.head.size, .int .u32 (x.head.sum : Int), .slice Ad x.data.length cd, .int .u64 (x.client : Int), .int .u64 (x.seq : Int), .int .i64 x.op, .string (strOf x.key), .int .i64 x.code, .slice An x.names.length cn] 38))
  have HD := Lh (HD.out.alloc hM.out hS.out (.cells #[.int .i64 x.kind, .int .i64 x.from_, .int .i64 x.to_, .int .u64 (x.term : Int), .int .u64 (x.index : Int), .int .u64 (x.logTerm : Int), .int .u64 (x.commit : Int), .int .u64 (x.ctx : Int), .bool x.okf, .bool x.force, .slice Ae es.length ce, .slice Av x.vot.length cv, .slice Al x.lea.length cl, .int .u64 (x.head.id.ver : Int), .int .i64 x.head.id.idx, .int .u64 (x.head.id.ep : Int), .int .i64 x.head.k, .int .i64 x.head.n, .int .i64 x.head.size, .int .u32 (x.head.sum : Int), .slice Ad x.data.length cd, .int .u64 (x.client : Int), .int .u64 (x.seq : Int), .int .i64 x.op, .string (strOf x.key), .int .i64 x.code, .slice An x.names.length cn] 38))
  have HN := Lh (HN.out.alloc hM.out hS.out (.cells #[.int .i64 x.kind, .int .i64 x.from_, .int .i64 x.to_, .int .u64 (x.term : Int), .int .u64 (x.index : Int), .int .u64 (x.logTerm : Int), .int .u64 (x.commit : Int), .int .u64 (x.ctx : Int), .bool x.okf, .bool x.force, .slice Ae es.length ce, .slice Av x.vot.length cv, .slice Al x.lea.length cl, .int .u64 (x.head.id.ver : Int), .int .i64 x.head.id.idx, .int .u64 (x.head.id.ep : Int), .int .i64 x.head.k, .int .i64 x.head.n, .int .i64 x.head.size, .int .u32 (x.head.sum : Int), .slice Ad x.data.length cd, .int .u64 (x.client : Int), .int .u64 (x.seq : Int), .int .i64 x.op, .string (strOf x.key), .int .i64 x.code, .slice An x.names.length cn] 38))
  have HEI := Lh (show EmsL g w.heap.size es (w.alloc (.cells #[.int .i64 x.kind, .int .i64 x.from_, .int .i64 x.to_, .int .u64 (x.term : Int), .int .u64 (x.index : Int), .int .u64 (x.logTerm : Int), .int .u64 (x.commit : Int), .int .u64 (x.ctx : Int), .bool x.okf, .bool x.force, .slice Ae es.length ce, .slice Av x.vot.length cv, .slice Al x.lea.length cl, .int .u64 (x.head.id.ver : Int), .int .i64 x.head.id.idx, .int .u64 (x.head.id.ep : Int), .int .i64 x.head.k, .int .i64 x.head.n, .int .i64 x.head.size, .int .u32 (x.head.sum : Int), .slice Ad x.data.length cd, .int .u64 (x.client : Int), .int .u64 (x.seq : Int), .int .i64 x.op, .string (strOf x.key), .int .i64 x.code, .slice An x.names.length cn] 38)) from fun m hm => (HEI.out m hm).alloc hS.out _)
  rw [ew0] at x0 k1 HE HV HLe HD HN HEI
  have r1 := Bk.new hM.out k1 #[.int .i64 0, .int .i64 0, .int .i64 0, .int .u64 0, .int .u64 0, .int .u64 0, .int .u64 0, .int .u64 0, .bool false, .bool false, .slice none 0 0, .slice none 0 0, .slice none 0 0, .int .u64 0, .int .i64 0, .int .u64 0, .int .i64 0, .int .i64 0, .int .i64 0, .int .u32 0, .slice none 0 0, .int .u64 0, .int .u64 0, .int .i64 0, .string ⟨#[]⟩, .int .i64 0, .slice none 0 0] 38
  have x1 := x0.alloc hM.out k1.st (.cells #[.int .i64 0, .int .i64 0, .int .i64 0, .int .u64 0, .int .u64 0, .int .u64 0, .int .u64 0, .int .u64 0, .bool false, .bool false, .slice none 0 0, .slice none 0 0, .slice none 0 0, .int .u64 0, .int .i64 0, .int .u64 0, .int .i64 0, .int .i64 0, .int .i64 0, .int .u32 0, .slice none 0 0, .int .u64 0, .int .u64 0, .int .i64 0, .string ⟨#[]⟩, .int .i64 0, .slice none 0 0] 38)
  have k2 := k1.alloc hM.out (.cells #[.int .i64 0, .int .i64 0, .int .i64 0, .int .u64 0, .int .u64 0, .int .u64 0, .int .u64 0, .int .u64 0, .bool false, .bool false, .slice none 0 0, .slice none 0 0, .slice none 0 0, .int .u64 0, .int .i64 0, .int .u64 0, .int .i64 0, .int .i64 0, .int .i64 0, .int .u32 0, .slice none 0 0, .int .u64 0, .int .u64 0, .int .i64 0, .string ⟨#[]⟩, .int .i64 0, .slice none 0 0] 38)
  have HE := Lh (HE.out.alloc hM.out k1.st (.cells #[.int .i64 0, .int .i64 0, .int .i64 0, .int .u64 0, .int .u64 0, .int .u64 0, .int .u64 0, .int .u64 0, .bool false, .bool false, .slice none 0 0, .slice none 0 0, .slice none 0 0, .int .u64 0, .int .i64 0, .int .u64 0, .int .i64 0, .int .i64 0, .int .i64 0, .int .u32 0, .slice none 0 0, .int .u64 0, .int .u64 0, .int .i64 0, .string ⟨#[]⟩, .int .i64 0, .slice none 0 0] 38))
  have HV := Lh (HV.out.alloc hM.out k1.st (.cells #[.int .i64 0, .int .i64 0, .int .i64 0, .int .u64 0, .int .u64 0, .int .u64 0, .int .u64 0, .int .u64 0, .bool false, .bool false, .slice none 0 0, .slice none 0 0, .slice none 0 0, .int .u64 0, .int .i64 0, .int .u64 0, .int .i64 0, .int .i64 0, .int .i64 0, .int .u32 0, .slice none 0 0, .int .u64 0, .int .u64 0, .int .i64 0, .string ⟨#[]⟩, .int .i64 0, .slice none 0 0] 38))
  have HLe := Lh (HLe.out.alloc hM.out k1.st (.cells #[.int .i64 0, .int .i64 0, .int .i64 0, .int .u64 0, .int .u64 0, .int .u64 0, .int .u64 0, .int .u64 0, .bool false, .bool false, .slice none 0 0, .slice none 0 0, .slice none 0 0, .int .u64 0, .int .i64 0, .int .u64 0, .int .i64 0, .int .i64 0, .int .i64 0, .int .u32 0, .slice none 0 0, .int .u64 0, .int .u64 0, .int .i64 0, .string ⟨#[]⟩, .int .i64 0, .slice none 0 0] 38))
  have HD := Lh (HD.out.alloc hM.out k1.st (.cells #[.int .i64 0, .int .i64 0, .int .i64 0, .int .u64 0, .int .u64 0, .int .u64 0, .int .u64 0, .int .u64 0, .bool false, .bool false, .slice none 0 0, .slice none 0 0, .slice none 0 0, .int .u64 0, .int .i64 0, .int .u64 0, .int .i64 0, .int .i64 0, .int .i64 0, .int .u32 0, .slice none 0 0, .int .u64 0, .int .u64 0, .int .i64 0, .string ⟨#[]⟩, .int .i64 0, .slice none 0 0] 38))
  have HN := Lh (HN.out.alloc hM.out k1.st (.cells #[.int .i64 0, .int .i64 0, .int .i64 0, .int .u64 0, .int .u64 0, .int .u64 0, .int .u64 0, .int .u64 0, .bool false, .bool false, .slice none 0 0, .slice none 0 0, .slice none 0 0, .int .u64 0, .int .i64 0, .int .u64 0, .int .i64 0, .int .i64 0, .int .i64 0, .int .u32 0, .slice none 0 0, .int .u64 0, .int .u64 0, .int .i64 0, .string ⟨#[]⟩, .int .i64 0, .slice none 0 0] 38))
  have HEI := Lh (show EmsL g w.heap.size es (w0.alloc (.cells #[.int .i64 0, .int .i64 0, .int .i64 0, .int .u64 0, .int .u64 0, .int .u64 0, .int .u64 0, .int .u64 0, .bool false, .bool false, .slice none 0 0, .slice none 0 0, .slice none 0 0, .int .u64 0, .int .i64 0, .int .u64 0, .int .i64 0, .int .i64 0, .int .i64 0, .int .u32 0, .slice none 0 0, .int .u64 0, .int .u64 0, .int .i64 0, .string ⟨#[]⟩, .int .i64 0, .slice none 0 0] 38)) from fun m hm => (HEI.out m hm).alloc k1.st _)
  have hsz0 : w0.heap.size = w.heap.size + 1 := by rw [← ew0]; simp
  rw [ew1] at r1 x1 k2 HE HV HLe HD HN HEI
  obtain ⟨b, eb⟩ : ∃ b, w.heap.size = b := ⟨_, rfl⟩
  obtain ⟨r, er⟩ : ∃ r, w0.heap.size = r := ⟨_, rfl⟩
  rw [eb] at x1 HEI hsz0
  rw [er] at r1 hsz0
  have BB := Lh x1
  have RR := Lh r1
  have KK := Lh k2
  have HBR := Lh hsz0
  have HHE := Lh (show 0 < es.length → ∀ ad, Ae = some ad → ad.block ≠ b from fun h0 ad e => by have := (HE0.out h0 ad e); rw [eb] at this; omega)
  have HHV := Lh (show 0 < x.vot.length → ∀ ad, Av = some ad → ad.block ≠ b from fun h0 ad e => by have := (HV0.out h0 ad e); rw [eb] at this; omega)
  have HHLe := Lh (show 0 < x.lea.length → ∀ ad, Al = some ad → ad.block ≠ b from fun h0 ad e => by have := (HLe0.out h0 ad e); rw [eb] at this; omega)
  have HHD := Lh (show 0 < x.data.length → ∀ ad, Ad = some ad → ad.block ≠ b from fun h0 ad e => by have := (HD0.out h0 ad e); rw [eb] at this; omega)
  have HHN := Lh (show 0 < x.names.length → ∀ ad, An = some ad → ad.block ≠ b from fun h0 ad e => by have := (HN0.out h0 ad e); rw [eb] at this; omega)
  clear k0 x0 k1 r1 x1 k2 hsz0
  go_enter Tryz.func40, Tryz.ntmps40
  have LL : Hid (ys.length ≤ 1000000000000) := hf
  have c0 : w1.cell? ⟨b, 0, none⟩ = some (.int .i64 x.kind) := BB.out.blk.cell 0
  go_wp2_with (first | rw [ew0] | rw [ew1] | rw [eb] | rw [er])
  clear ew0 ew1 er
  have EB := Lh eb
  clear eb
  have hle := LL.out
  have hc : Calls Tryz.prog 59 #[.pointer (some ⟨g, 0, none⟩), .int .i64 x.kind] w1 (RetP (wMd g) (ys ++ (putN (zz x.kind))) (.int .i64 x.kind) w1) := hM.out.c_int ys x.kind w1 (Lh KK.out.st) hO.out.kind (by show ys.length + 10 ≤ 70000000000000; omega)
  clear hle
  obtain ⟨y2, ey⟩ : ∃ y, ys ++ (putN (zz x.kind)) = y := ⟨_, rfl⟩
  rw [ey] at hc
  have LL : Hid (y2.length ≤ 1000000000010) := Lh (by have h1 := LL.out; have hadd := (show (putN (zz x.kind)).length ≤ 10 from pInt_len (x := x.kind) hO.out.kind); rw [← ey, List.length_append]; omega)
  have Y2 := Lh ey
  clear ey
  refine hc.mono ?_
  rintro e w2 ⟨rfl, hs, hk⟩
  clear hc
  have BB := Lh (BB.out.call hk)
  have RR := Lh (RR.out.call hk)
  have KK := Lh (KK.out.call hs hk)
  have HE := Lh (HE.out.call hk)
  have HV := Lh (HV.out.call hk)
  have HLe := Lh (HLe.out.call hk)
  have HD := Lh (HD.out.call hk)
  have HN := Lh (HN.out.call hk)
  have HEI := Lh (fun m hm => (HEI.out m hm).call hk)
  clear hk hs
  have hset : w2.setCell ⟨b, 0, none⟩ (.int .i64 x.kind) = w2 := set_same_w BB.out.blk (i := 0) rfl
  have ci : w2.cell? ⟨b, 0, none⟩ = some (.int .i64 x.kind) := BB.out.blk.cell 0
  have fi := BB.out.blk.frozen 0
  clear c0
  have c1 : w2.cell? ⟨b, 1, none⟩ = some (.int .i64 x.from_) := BB.out.blk.cell 1
  go_wp2_with fail
  clear hset ci fi
  have hle := LL.out
  have hc : Calls Tryz.prog 59 #[.pointer (some ⟨g, 0, none⟩), .int .i64 x.from_] w2 (RetP (wMd g) (y2 ++ (putN (zz x.from_))) (.int .i64 x.from_) w2) := hM.out.c_int y2 x.from_ w2 (Lh KK.out.st) hO.out.from_ (by show y2.length + 10 ≤ 70000000000000; omega)
  clear hle
  obtain ⟨y3, ey⟩ : ∃ y, y2 ++ (putN (zz x.from_)) = y := ⟨_, rfl⟩
  rw [ey] at hc
  have LL : Hid (y3.length ≤ 1000000000020) := Lh (by have h1 := LL.out; have hadd := (show (putN (zz x.from_)).length ≤ 10 from pInt_len (x := x.from_) hO.out.from_); rw [← ey, List.length_append]; omega)
  have Y3 := Lh ey
  clear ey
  refine hc.mono ?_
  rintro e w3 ⟨rfl, hs, hk⟩
  clear hc
  have BB := Lh (BB.out.call hk)
  have RR := Lh (RR.out.call hk)
  have KK := Lh (KK.out.call hs hk)
  have HE := Lh (HE.out.call hk)
  have HV := Lh (HV.out.call hk)
  have HLe := Lh (HLe.out.call hk)
  have HD := Lh (HD.out.call hk)
  have HN := Lh (HN.out.call hk)
  have HEI := Lh (fun m hm => (HEI.out m hm).call hk)
  clear hk hs
  have hset : w3.setCell ⟨b, 1, none⟩ (.int .i64 x.from_) = w3 := set_same_w BB.out.blk (i := 1) rfl
  have ci : w3.cell? ⟨b, 1, none⟩ = some (.int .i64 x.from_) := BB.out.blk.cell 1
  have fi := BB.out.blk.frozen 1
  clear c1
  have c2 : w3.cell? ⟨b, 2, none⟩ = some (.int .i64 x.to_) := BB.out.blk.cell 2
  go_wp2_with fail
  clear hset ci fi
  have hle := LL.out
  have hc : Calls Tryz.prog 59 #[.pointer (some ⟨g, 0, none⟩), .int .i64 x.to_] w3 (RetP (wMd g) (y3 ++ (putN (zz x.to_))) (.int .i64 x.to_) w3) := hM.out.c_int y3 x.to_ w3 (Lh KK.out.st) hO.out.to_ (by show y3.length + 10 ≤ 70000000000000; omega)
  clear hle
  obtain ⟨y4, ey⟩ : ∃ y, y3 ++ (putN (zz x.to_)) = y := ⟨_, rfl⟩
  rw [ey] at hc
  have LL : Hid (y4.length ≤ 1000000000030) := Lh (by have h1 := LL.out; have hadd := (show (putN (zz x.to_)).length ≤ 10 from pInt_len (x := x.to_) hO.out.to_); rw [← ey, List.length_append]; omega)
  have Y4 := Lh ey
  clear ey
  refine hc.mono ?_
  rintro e w4 ⟨rfl, hs, hk⟩
  clear hc
  have BB := Lh (BB.out.call hk)
  have RR := Lh (RR.out.call hk)
  have KK := Lh (KK.out.call hs hk)
  have HE := Lh (HE.out.call hk)
  have HV := Lh (HV.out.call hk)
  have HLe := Lh (HLe.out.call hk)
  have HD := Lh (HD.out.call hk)
  have HN := Lh (HN.out.call hk)
  have HEI := Lh (fun m hm => (HEI.out m hm).call hk)
  clear hk hs
  have hset : w4.setCell ⟨b, 2, none⟩ (.int .i64 x.to_) = w4 := set_same_w BB.out.blk (i := 2) rfl
  have ci : w4.cell? ⟨b, 2, none⟩ = some (.int .i64 x.to_) := BB.out.blk.cell 2
  have fi := BB.out.blk.frozen 2
  clear c2
  have c3 : w4.cell? ⟨b, 3, none⟩ = some (.int .u64 (x.term : Int)) := BB.out.blk.cell 3
  go_wp2_with fail
  clear hset ci fi
  have hle := LL.out
  have hc : Calls Tryz.prog 60 #[.pointer (some ⟨g, 0, none⟩), .int .u64 (x.term : Int)] w4 (RetP (wMd g) (y4 ++ (putN x.term)) (.int .u64 (x.term : Int)) w4) := hM.out.c_u64 y4 x.term w4 (Lh KK.out.st) hO.out.term (by show y4.length + 10 ≤ 70000000000000; omega)
  clear hle
  obtain ⟨y5, ey⟩ : ∃ y, y4 ++ (putN x.term) = y := ⟨_, rfl⟩
  rw [ey] at hc
  have LL : Hid (y5.length ≤ 1000000000040) := Lh (by have h1 := LL.out; have hadd := putN_len10 (n := x.term) hO.out.term; rw [← ey, List.length_append]; omega)
  have Y5 := Lh ey
  clear ey
  refine hc.mono ?_
  rintro e w5 ⟨rfl, hs, hk⟩
  clear hc
  have BB := Lh (BB.out.call hk)
  have RR := Lh (RR.out.call hk)
  have KK := Lh (KK.out.call hs hk)
  have HE := Lh (HE.out.call hk)
  have HV := Lh (HV.out.call hk)
  have HLe := Lh (HLe.out.call hk)
  have HD := Lh (HD.out.call hk)
  have HN := Lh (HN.out.call hk)
  have HEI := Lh (fun m hm => (HEI.out m hm).call hk)
  clear hk hs
  have hset : w5.setCell ⟨b, 3, none⟩ (.int .u64 (x.term : Int)) = w5 := set_same_w BB.out.blk (i := 3) rfl
  have ci : w5.cell? ⟨b, 3, none⟩ = some (.int .u64 (x.term : Int)) := BB.out.blk.cell 3
  have fi := BB.out.blk.frozen 3
  clear c3
  have c4 : w5.cell? ⟨b, 4, none⟩ = some (.int .u64 (x.index : Int)) := BB.out.blk.cell 4
  go_wp2_with fail
  clear hset ci fi
  have hle := LL.out
  have hc : Calls Tryz.prog 60 #[.pointer (some ⟨g, 0, none⟩), .int .u64 (x.index : Int)] w5 (RetP (wMd g) (y5 ++ (putN x.index)) (.int .u64 (x.index : Int)) w5) := hM.out.c_u64 y5 x.index w5 (Lh KK.out.st) hO.out.index (by show y5.length + 10 ≤ 70000000000000; omega)
  clear hle
  obtain ⟨y6, ey⟩ : ∃ y, y5 ++ (putN x.index) = y := ⟨_, rfl⟩
  rw [ey] at hc
  have LL : Hid (y6.length ≤ 1000000000050) := Lh (by have h1 := LL.out; have hadd := putN_len10 (n := x.index) hO.out.index; rw [← ey, List.length_append]; omega)
  have Y6 := Lh ey
  clear ey
  refine hc.mono ?_
  rintro e w6 ⟨rfl, hs, hk⟩
  clear hc
  have BB := Lh (BB.out.call hk)
  have RR := Lh (RR.out.call hk)
  have KK := Lh (KK.out.call hs hk)
  have HE := Lh (HE.out.call hk)
  have HV := Lh (HV.out.call hk)
  have HLe := Lh (HLe.out.call hk)
  have HD := Lh (HD.out.call hk)
  have HN := Lh (HN.out.call hk)
  have HEI := Lh (fun m hm => (HEI.out m hm).call hk)
  clear hk hs
  have hset : w6.setCell ⟨b, 4, none⟩ (.int .u64 (x.index : Int)) = w6 := set_same_w BB.out.blk (i := 4) rfl
  have ci : w6.cell? ⟨b, 4, none⟩ = some (.int .u64 (x.index : Int)) := BB.out.blk.cell 4
  have fi := BB.out.blk.frozen 4
  clear c4
  have c5 : w6.cell? ⟨b, 5, none⟩ = some (.int .u64 (x.logTerm : Int)) := BB.out.blk.cell 5
  go_wp2_with fail
  clear hset ci fi
  have hle := LL.out
  have hc : Calls Tryz.prog 60 #[.pointer (some ⟨g, 0, none⟩), .int .u64 (x.logTerm : Int)] w6 (RetP (wMd g) (y6 ++ (putN x.logTerm)) (.int .u64 (x.logTerm : Int)) w6) := hM.out.c_u64 y6 x.logTerm w6 (Lh KK.out.st) hO.out.logTerm (by show y6.length + 10 ≤ 70000000000000; omega)
  clear hle
  obtain ⟨y7, ey⟩ : ∃ y, y6 ++ (putN x.logTerm) = y := ⟨_, rfl⟩
  rw [ey] at hc
  have LL : Hid (y7.length ≤ 1000000000060) := Lh (by have h1 := LL.out; have hadd := putN_len10 (n := x.logTerm) hO.out.logTerm; rw [← ey, List.length_append]; omega)
  have Y7 := Lh ey
  clear ey
  refine hc.mono ?_
  rintro e w7 ⟨rfl, hs, hk⟩
  clear hc
  have BB := Lh (BB.out.call hk)
  have RR := Lh (RR.out.call hk)
  have KK := Lh (KK.out.call hs hk)
  have HE := Lh (HE.out.call hk)
  have HV := Lh (HV.out.call hk)
  have HLe := Lh (HLe.out.call hk)
  have HD := Lh (HD.out.call hk)
  have HN := Lh (HN.out.call hk)
  have HEI := Lh (fun m hm => (HEI.out m hm).call hk)
  clear hk hs
  have hset : w7.setCell ⟨b, 5, none⟩ (.int .u64 (x.logTerm : Int)) = w7 := set_same_w BB.out.blk (i := 5) rfl
  have ci : w7.cell? ⟨b, 5, none⟩ = some (.int .u64 (x.logTerm : Int)) := BB.out.blk.cell 5
  have fi := BB.out.blk.frozen 5
  clear c5
  have c6 : w7.cell? ⟨b, 6, none⟩ = some (.int .u64 (x.commit : Int)) := BB.out.blk.cell 6
  go_wp2_with fail
  clear hset ci fi
  have hle := LL.out
  have hc : Calls Tryz.prog 60 #[.pointer (some ⟨g, 0, none⟩), .int .u64 (x.commit : Int)] w7 (RetP (wMd g) (y7 ++ (putN x.commit)) (.int .u64 (x.commit : Int)) w7) := hM.out.c_u64 y7 x.commit w7 (Lh KK.out.st) hO.out.commit (by show y7.length + 10 ≤ 70000000000000; omega)
  clear hle
  obtain ⟨y8, ey⟩ : ∃ y, y7 ++ (putN x.commit) = y := ⟨_, rfl⟩
  rw [ey] at hc
  have LL : Hid (y8.length ≤ 1000000000070) := Lh (by have h1 := LL.out; have hadd := putN_len10 (n := x.commit) hO.out.commit; rw [← ey, List.length_append]; omega)
  have Y8 := Lh ey
  clear ey
  refine hc.mono ?_
  rintro e w8 ⟨rfl, hs, hk⟩
  clear hc
  have BB := Lh (BB.out.call hk)
  have RR := Lh (RR.out.call hk)
  have KK := Lh (KK.out.call hs hk)
  have HE := Lh (HE.out.call hk)
  have HV := Lh (HV.out.call hk)
  have HLe := Lh (HLe.out.call hk)
  have HD := Lh (HD.out.call hk)
  have HN := Lh (HN.out.call hk)
  have HEI := Lh (fun m hm => (HEI.out m hm).call hk)
  clear hk hs
  have hset : w8.setCell ⟨b, 6, none⟩ (.int .u64 (x.commit : Int)) = w8 := set_same_w BB.out.blk (i := 6) rfl
  have ci : w8.cell? ⟨b, 6, none⟩ = some (.int .u64 (x.commit : Int)) := BB.out.blk.cell 6
  have fi := BB.out.blk.frozen 6
  clear c6
  have c7 : w8.cell? ⟨b, 7, none⟩ = some (.int .u64 (x.ctx : Int)) := BB.out.blk.cell 7
  go_wp2_with fail
  clear hset ci fi
  have hle := LL.out
  have hc : Calls Tryz.prog 60 #[.pointer (some ⟨g, 0, none⟩), .int .u64 (x.ctx : Int)] w8 (RetP (wMd g) (y8 ++ (putN x.ctx)) (.int .u64 (x.ctx : Int)) w8) := hM.out.c_u64 y8 x.ctx w8 (Lh KK.out.st) hO.out.ctx (by show y8.length + 10 ≤ 70000000000000; omega)
  clear hle
  obtain ⟨y9, ey⟩ : ∃ y, y8 ++ (putN x.ctx) = y := ⟨_, rfl⟩
  rw [ey] at hc
  have LL : Hid (y9.length ≤ 1000000000080) := Lh (by have h1 := LL.out; have hadd := putN_len10 (n := x.ctx) hO.out.ctx; rw [← ey, List.length_append]; omega)
  have Y9 := Lh ey
  clear ey
  refine hc.mono ?_
  rintro e w9 ⟨rfl, hs, hk⟩
  clear hc
  have BB := Lh (BB.out.call hk)
  have RR := Lh (RR.out.call hk)
  have KK := Lh (KK.out.call hs hk)
  have HE := Lh (HE.out.call hk)
  have HV := Lh (HV.out.call hk)
  have HLe := Lh (HLe.out.call hk)
  have HD := Lh (HD.out.call hk)
  have HN := Lh (HN.out.call hk)
  have HEI := Lh (fun m hm => (HEI.out m hm).call hk)
  clear hk hs
  have hset : w9.setCell ⟨b, 7, none⟩ (.int .u64 (x.ctx : Int)) = w9 := set_same_w BB.out.blk (i := 7) rfl
  have ci : w9.cell? ⟨b, 7, none⟩ = some (.int .u64 (x.ctx : Int)) := BB.out.blk.cell 7
  have fi := BB.out.blk.frozen 7
  clear c7
  have c8 : w9.cell? ⟨b, 8, none⟩ = some (.bool x.okf) := BB.out.blk.cell 8
  go_wp2_with fail
  clear hset ci fi
  have hle := LL.out
  have hc : Calls Tryz.prog 61 #[.pointer (some ⟨g, 0, none⟩), .bool x.okf] w9 (RetP (wMd g) (y9 ++ ([x.okf.toNat])) (.bool x.okf) w9) := hM.out.c_flag y9 x.okf w9 (Lh KK.out.st) (by show y9.length + 10 ≤ 70000000000000; omega)
  clear hle
  obtain ⟨y10, ey⟩ : ∃ y, y9 ++ ([x.okf.toNat]) = y := ⟨_, rfl⟩
  rw [ey] at hc
  have LL : Hid (y10.length ≤ 1000000000081) := Lh (by have h1 := LL.out; have hadd := (show ([x.okf.toNat] : List Nat).length ≤ 1 from Nat.le_refl _); rw [← ey, List.length_append]; omega)
  have Y10 := Lh ey
  clear ey
  refine hc.mono ?_
  rintro e w10 ⟨rfl, hs, hk⟩
  clear hc
  have BB := Lh (BB.out.call hk)
  have RR := Lh (RR.out.call hk)
  have KK := Lh (KK.out.call hs hk)
  have HE := Lh (HE.out.call hk)
  have HV := Lh (HV.out.call hk)
  have HLe := Lh (HLe.out.call hk)
  have HD := Lh (HD.out.call hk)
  have HN := Lh (HN.out.call hk)
  have HEI := Lh (fun m hm => (HEI.out m hm).call hk)
  clear hk hs
  have hset : w10.setCell ⟨b, 8, none⟩ (.bool x.okf) = w10 := set_same_w BB.out.blk (i := 8) rfl
  have ci : w10.cell? ⟨b, 8, none⟩ = some (.bool x.okf) := BB.out.blk.cell 8
  have fi := BB.out.blk.frozen 8
  clear c8
  have c9 : w10.cell? ⟨b, 9, none⟩ = some (.bool x.force) := BB.out.blk.cell 9
  go_wp2_with fail
  clear hset ci fi
  have hle := LL.out
  have hc : Calls Tryz.prog 61 #[.pointer (some ⟨g, 0, none⟩), .bool x.force] w10 (RetP (wMd g) (y10 ++ ([x.force.toNat])) (.bool x.force) w10) := hM.out.c_flag y10 x.force w10 (Lh KK.out.st) (by show y10.length + 10 ≤ 70000000000000; omega)
  clear hle
  obtain ⟨y11, ey⟩ : ∃ y, y10 ++ ([x.force.toNat]) = y := ⟨_, rfl⟩
  rw [ey] at hc
  have LL : Hid (y11.length ≤ 1000000000082) := Lh (by have h1 := LL.out; have hadd := (show ([x.force.toNat] : List Nat).length ≤ 1 from Nat.le_refl _); rw [← ey, List.length_append]; omega)
  have Y11 := Lh ey
  clear ey
  refine hc.mono ?_
  rintro e w11 ⟨rfl, hs, hk⟩
  clear hc
  have BB := Lh (BB.out.call hk)
  have RR := Lh (RR.out.call hk)
  have KK := Lh (KK.out.call hs hk)
  have HE := Lh (HE.out.call hk)
  have HV := Lh (HV.out.call hk)
  have HLe := Lh (HLe.out.call hk)
  have HD := Lh (HD.out.call hk)
  have HN := Lh (HN.out.call hk)
  have HEI := Lh (fun m hm => (HEI.out m hm).call hk)
  clear hk hs
  have hset : w11.setCell ⟨b, 9, none⟩ (.bool x.force) = w11 := set_same_w BB.out.blk (i := 9) rfl
  have ci : w11.cell? ⟨b, 9, none⟩ = some (.bool x.force) := BB.out.blk.cell 9
  have fi := BB.out.blk.frozen 9
  clear c9
  have c10 : w11.cell? ⟨b, 10, none⟩ = some (.slice Ae es.length ce) := BB.out.blk.cell 10
  go_wp2_with fail
  clear hset ci fi
  have hle := LL.out
  have hc := pw_entries g y11 Ae es.length ce es w11 (Lh KK.out.st) HE (Lh fun m hm => (HEI.out m hm).hi_ (by have h := KK.out.stp.size; rw [EB.out] at h; exact h)) (Lh rfl) HEL.out HEO (Lh (by have := HEL.out; have h4 : es.length * 42992040 ≤ 1048576 * 42992040 := Nat.mul_le_mul_right _ this; omega))
  clear hle
  obtain ⟨y12, ey⟩ : ∃ y, y11 ++ (putN es.length ++ emB es) = y := ⟨_, rfl⟩
  rw [ey] at hc
  have LL : Hid (y12.length ≤ 46080421335132) := Lh (by have h1 := LL.out; have hadd := (show (putN es.length ++ emB es).length ≤ 45080421335050 from by have h2 := HEL.out; have h3 := emB_len HEO.out; have h4 : es.length * 42992040 ≤ 1048576 * 42992040 := Nat.mul_le_mul_right _ h2; have h5 := putN_len10 (n := es.length) (by omega); rw [List.length_append]; omega); rw [← ey, List.length_append]; omega)
  have Y12 := Lh ey
  clear ey
  refine hc.mono ?_
  rintro e w12 ⟨A1, c1, rfl, hs, hk⟩
  clear hc
  have BB := Lh (BB.out.call hk)
  have RR := Lh (RR.out.call hk)
  have KK := Lh (KK.out.call hs hk)
  have HE := Lh (HE.out.call hk)
  have HV := Lh (HV.out.call hk)
  have HLe := Lh (HLe.out.call hk)
  have HD := Lh (HD.out.call hk)
  have HN := Lh (HN.out.call hk)
  have HEI := Lh (fun m hm => (HEI.out m hm).call hk)
  clear hk hs
  have ci : w12.cell? ⟨b, 10, none⟩ = some (.slice Ae es.length ce) := BB.out.blk.cell 10
  have fi := BB.out.blk.frozen 10
  have hB := BB.out.blk.set_ 10 (.slice A1 es.length c1)
  have hO := Only.set_ w12 b 10 (.slice A1 es.length c1)
  obtain ⟨wz12, ez⟩ : ∃ wz, w12.setCell ⟨b, 10, none⟩ (.slice A1 es.length c1) = wz := ⟨_, rfl⟩
  rw [ez] at hB hO
  have hB9 : Blk wz12 b 38 #[.int .i64 x.kind, .int .i64 x.from_, .int .i64 x.to_, .int .u64 (x.term : Int), .int .u64 (x.index : Int), .int .u64 (x.logTerm : Int), .int .u64 (x.commit : Int), .int .u64 (x.ctx : Int), .bool x.okf, .bool x.force, .slice A1 es.length c1, .slice Av x.vot.length cv, .slice Al x.lea.length cl, .int .u64 (x.head.id.ver : Int), .int .i64 x.head.id.idx, .int .u64 (x.head.id.ep : Int), .int .i64 x.head.k, .int .i64 x.head.n, .int .i64 x.head.size, .int .u32 (x.head.sum : Int), .slice Ad x.data.length cd, .int .u64 (x.client : Int), .int .u64 (x.seq : Int), .int .i64 x.op, .string (strOf x.key), .int .i64 x.code, .slice An x.names.length cn] := hB
  have c11 : wz12.cell? ⟨b, 11, none⟩ = some (.slice Av x.vot.length cv) := hB9.cell 11
  have c12 : wz12.cell? ⟨b, 12, none⟩ = some (.slice Al x.lea.length cl) := hB9.cell 12
  go_wp2_with (rw [ez])
  clear ez ci fi
  have RR := Lh (RR.out.only hM.out KK.out.st hO BB.out.free (by have := HBR.out; omega))
  have HE := Lh (HE.out.only hM.out KK.out.st hO BB.out.free (fun h0 ad e => (HHE.out h0 ad e)))
  have HV := Lh (HV.out.only hM.out KK.out.st hO BB.out.free (fun h0 ad e => (HHV.out h0 ad e)))
  have HLe := Lh (HLe.out.only hM.out KK.out.st hO BB.out.free (fun h0 ad e => (HHLe.out h0 ad e)))
  have HD := Lh (HD.out.only hM.out KK.out.st hO BB.out.free (fun h0 ad e => (HHD.out h0 ad e)))
  have HN := Lh (HN.out.only hM.out KK.out.st hO BB.out.free (fun h0 ad e => (HHN.out h0 ad e)))
  have HEI := Lh (fun m hm => (HEI.out m hm).only KK.out.st hO BB.out.free (Nat.le_refl _))
  have K2 := Lh (KK.out.only hM.out BB.out hO)
  have BB := Lh (BB.out.turn hM.out KK.out.st hO hB9)
  have KK := K2
  clear hB hB9 hO
  have hle := LL.out
  have hc := pf_conf (wMd g) hM.out y12 Av cv Al cl (x.vot, x.lea) wz12 (Lh KK.out.st) HV HLe hO.out.conf (Lh fun h => by cases h) (Lh fun h => by cases h) (Lh (by show y12.length + 20971590 ≤ 70000000000000; omega))
  clear hle
  rw [w_conf] at hc
  obtain ⟨z2, ez2⟩ : ∃ z, (confF (wMd g) y12 (x.vot, x.lea)).2 = z := ⟨_, rfl⟩
  rw [ez2] at hc
  clear ez2
  obtain ⟨y13, ey⟩ : ∃ y, y12 ++ (pConf (x.vot, x.lea)) = y := ⟨_, rfl⟩
  rw [ey] at hc
  have LL : Hid (y13.length ≤ 46080442306722) := Lh (by have h1 := LL.out; have hadd := pConf_len (x := (x.vot, x.lea)) hO.out.conf; rw [← ey, List.length_append]; omega)
  have Y13 := Lh ey
  clear ey
  refine hc.mono ?_
  rintro e w13 ⟨A2, c2, A3, c3, rfl, -, -, hs, hk⟩
  clear hc
  have BB := Lh (BB.out.call hk)
  have RR := Lh (RR.out.call hk)
  have KK := Lh (KK.out.call hs hk)
  have HE := Lh (HE.out.call hk)
  have HV := Lh (HV.out.call hk)
  have HLe := Lh (HLe.out.call hk)
  have HD := Lh (HD.out.call hk)
  have HN := Lh (HN.out.call hk)
  have HEI := Lh (fun m hm => (HEI.out m hm).call hk)
  clear hk hs
  have hse : setL #[.int .i64 x.kind, .int .i64 x.from_, .int .i64 x.to_, .int .u64 (x.term : Int), .int .u64 (x.index : Int), .int .u64 (x.logTerm : Int), .int .u64 (x.commit : Int), .int .u64 (x.ctx : Int), .bool x.okf, .bool x.force, .slice A1 es.length c1, .slice Av x.vot.length cv, .slice Al x.lea.length cl, .int .u64 (x.head.id.ver : Int), .int .i64 x.head.id.idx, .int .u64 (x.head.id.ep : Int), .int .i64 x.head.k, .int .i64 x.head.n, .int .i64 x.head.size, .int .u32 (x.head.sum : Int), .slice Ad x.data.length cd, .int .u64 (x.client : Int), .int .u64 (x.seq : Int), .int .i64 x.op, .string (strOf x.key), .int .i64 x.code, .slice An x.names.length cn] 11 (#[.slice A2 z2.1.length c2, .slice A3 z2.2.length c3] : Array Value).toList = #[.int .i64 x.kind, .int .i64 x.from_, .int .i64 x.to_, .int .u64 (x.term : Int), .int .u64 (x.index : Int), .int .u64 (x.logTerm : Int), .int .u64 (x.commit : Int), .int .u64 (x.ctx : Int), .bool x.okf, .bool x.force, .slice A1 es.length c1, .slice A2 z2.1.length c2, .slice A3 z2.2.length c3, .int .u64 (x.head.id.ver : Int), .int .i64 x.head.id.idx, .int .u64 (x.head.id.ep : Int), .int .i64 x.head.k, .int .i64 x.head.n, .int .i64 x.head.size, .int .u32 (x.head.sum : Int), .slice Ad x.data.length cd, .int .u64 (x.client : Int), .int .u64 (x.seq : Int), .int .i64 x.op, .string (strOf x.key), .int .i64 x.code, .slice An x.names.length cn] := by rfl
  have HSE := Lh hse
  clear hse
  go_wp2_with (first | (refine wpl_store_part rfl 27 (.tmp 68) (.tmp 67) rfl b 11 38 #[.int .i64 x.kind, .int .i64 x.from_, .int .i64 x.to_, .int .u64 (x.term : Int), .int .u64 (x.index : Int), .int .u64 (x.logTerm : Int), .int .u64 (x.commit : Int), .int .u64 (x.ctx : Int), .bool x.okf, .bool x.force, .slice A1 es.length c1, .slice Av x.vot.length cv, .slice Al x.lea.length cl, .int .u64 (x.head.id.ver : Int), .int .i64 x.head.id.idx, .int .u64 (x.head.id.ep : Int), .int .i64 x.head.k, .int .i64 x.head.n, .int .i64 x.head.size, .int .u32 (x.head.sum : Int), .slice Ad x.data.length cd, .int .u64 (x.client : Int), .int .u64 (x.seq : Int), .int .i64 x.op, .string (strOf x.key), .int .i64 x.code, .slice An x.names.length cn] #[.int .i64 x.kind, .int .i64 x.from_, .int .i64 x.to_, .int .u64 (x.term : Int), .int .u64 (x.index : Int), .int .u64 (x.logTerm : Int), .int .u64 (x.commit : Int), .int .u64 (x.ctx : Int), .bool x.okf, .bool x.force, .slice A1 es.length c1, .slice A2 z2.1.length c2, .slice A3 z2.2.length c3, .int .u64 (x.head.id.ver : Int), .int .i64 x.head.id.idx, .int .u64 (x.head.id.ep : Int), .int .i64 x.head.k, .int .i64 x.head.n, .int .i64 x.head.size, .int .u32 (x.head.sum : Int), .slice Ad x.data.length cd, .int .u64 (x.client : Int), .int .u64 (x.seq : Int), .int .i64 x.op, .string (strOf x.key), .int .i64 x.code, .slice An x.names.length cn] #[.slice A2 z2.1.length c2, .slice A3 z2.2.length c3] rfl rfl BB.out.blk (by show 11 + 2 ≤ 27; decide) HSE.out Tryz.sizeF rfl ?_; intro wz13 hB9 hO9; have c13 : wz13.cell? ⟨b, 13, none⟩ = some (.int .u64 (x.head.id.ver : Int)) := hB9.out.cell 13; have c14 : wz13.cell? ⟨b, 14, none⟩ = some (.int .i64 x.head.id.idx) := hB9.out.cell 14; have c15 : wz13.cell? ⟨b, 15, none⟩ = some (.int .u64 (x.head.id.ep : Int)) := hB9.out.cell 15; have c16 : wz13.cell? ⟨b, 16, none⟩ = some (.int .i64 x.head.k) := hB9.out.cell 16; have c17 : wz13.cell? ⟨b, 17, none⟩ = some (.int .i64 x.head.n) := hB9.out.cell 17; have c18 : wz13.cell? ⟨b, 18, none⟩ = some (.int .i64 x.head.size) := hB9.out.cell 18; have c19 : wz13.cell? ⟨b, 19, none⟩ = some (.int .u32 (x.head.sum : Int)) := hB9.out.cell 19))
  clear HSE
  have RR := Lh (RR.out.only hM.out KK.out.st hO9.out BB.out.free (by have := HBR.out; omega))
  have HE := Lh (HE.out.only hM.out KK.out.st hO9.out BB.out.free (fun h0 ad e => (HHE.out h0 ad e)))
  have HV := Lh (HV.out.only hM.out KK.out.st hO9.out BB.out.free (fun h0 ad e => (HHV.out h0 ad e)))
  have HLe := Lh (HLe.out.only hM.out KK.out.st hO9.out BB.out.free (fun h0 ad e => (HHLe.out h0 ad e)))
  have HD := Lh (HD.out.only hM.out KK.out.st hO9.out BB.out.free (fun h0 ad e => (HHD.out h0 ad e)))
  have HN := Lh (HN.out.only hM.out KK.out.st hO9.out BB.out.free (fun h0 ad e => (HHN.out h0 ad e)))
  have HEI := Lh (fun m hm => (HEI.out m hm).only KK.out.st hO9.out BB.out.free (Nat.le_refl _))
  have K2 := Lh (KK.out.only hM.out BB.out hO9.out)
  have BB := Lh (BB.out.turn hM.out KK.out.st hO9.out hB9.out)
  have KK := K2
  clear hB9 hO9
  have hle := LL.out
  have hc := pf_header (wMd g) hM.out y13 x.head wz13 (Lh KK.out.st) hO.out.head (by show y13.length + 70 ≤ 70000000000000; omega)
  clear hle
  rw [w_hd] at hc
  obtain ⟨z3, ez3⟩ : ∃ z, (hdF (wMd g) y13 x.head).2 = z := ⟨_, rfl⟩
  rw [ez3] at hc
  clear ez3
  unfold hdCs at hc
  obtain ⟨y14, ey⟩ : ∃ y, y13 ++ (pHd x.head) = y := ⟨_, rfl⟩
  rw [ey] at hc
  have LL : Hid (y14.length ≤ 46080442306792) := Lh (by have h1 := LL.out; have hadd := pHd_len hO.out.head; rw [← ey, List.length_append]; omega)
  have Y14 := Lh ey
  clear ey
  refine hc.mono ?_
  rintro e w14 ⟨rfl, hs, hk⟩
  clear hc
  have BB := Lh (BB.out.call hk)
  have RR := Lh (RR.out.call hk)
  have KK := Lh (KK.out.call hs hk)
  have HE := Lh (HE.out.call hk)
  have HV := Lh (HV.out.call hk)
  have HLe := Lh (HLe.out.call hk)
  have HD := Lh (HD.out.call hk)
  have HN := Lh (HN.out.call hk)
  have HEI := Lh (fun m hm => (HEI.out m hm).call hk)
  clear hk hs
  have hse : setL #[.int .i64 x.kind, .int .i64 x.from_, .int .i64 x.to_, .int .u64 (x.term : Int), .int .u64 (x.index : Int), .int .u64 (x.logTerm : Int), .int .u64 (x.commit : Int), .int .u64 (x.ctx : Int), .bool x.okf, .bool x.force, .slice A1 es.length c1, .slice A2 z2.1.length c2, .slice A3 z2.2.length c3, .int .u64 (x.head.id.ver : Int), .int .i64 x.head.id.idx, .int .u64 (x.head.id.ep : Int), .int .i64 x.head.k, .int .i64 x.head.n, .int .i64 x.head.size, .int .u32 (x.head.sum : Int), .slice Ad x.data.length cd, .int .u64 (x.client : Int), .int .u64 (x.seq : Int), .int .i64 x.op, .string (strOf x.key), .int .i64 x.code, .slice An x.names.length cn] 13 (#[.int .u64 (z3.id.ver : Int), .int .i64 z3.id.idx, .int .u64 (z3.id.ep : Int), .int .i64 z3.k, .int .i64 z3.n, .int .i64 z3.size, .int .u32 (z3.sum : Int)] : Array Value).toList = #[.int .i64 x.kind, .int .i64 x.from_, .int .i64 x.to_, .int .u64 (x.term : Int), .int .u64 (x.index : Int), .int .u64 (x.logTerm : Int), .int .u64 (x.commit : Int), .int .u64 (x.ctx : Int), .bool x.okf, .bool x.force, .slice A1 es.length c1, .slice A2 z2.1.length c2, .slice A3 z2.2.length c3, .int .u64 (z3.id.ver : Int), .int .i64 z3.id.idx, .int .u64 (z3.id.ep : Int), .int .i64 z3.k, .int .i64 z3.n, .int .i64 z3.size, .int .u32 (z3.sum : Int), .slice Ad x.data.length cd, .int .u64 (x.client : Int), .int .u64 (x.seq : Int), .int .i64 x.op, .string (strOf x.key), .int .i64 x.code, .slice An x.names.length cn] := by rfl
  have HSE := Lh hse
  clear hse
  go_wp2_with (first | (refine wpl_store_part rfl 32 (.tmp 73) (.tmp 72) rfl b 13 38 #[.int .i64 x.kind, .int .i64 x.from_, .int .i64 x.to_, .int .u64 (x.term : Int), .int .u64 (x.index : Int), .int .u64 (x.logTerm : Int), .int .u64 (x.commit : Int), .int .u64 (x.ctx : Int), .bool x.okf, .bool x.force, .slice A1 es.length c1, .slice A2 z2.1.length c2, .slice A3 z2.2.length c3, .int .u64 (x.head.id.ver : Int), .int .i64 x.head.id.idx, .int .u64 (x.head.id.ep : Int), .int .i64 x.head.k, .int .i64 x.head.n, .int .i64 x.head.size, .int .u32 (x.head.sum : Int), .slice Ad x.data.length cd, .int .u64 (x.client : Int), .int .u64 (x.seq : Int), .int .i64 x.op, .string (strOf x.key), .int .i64 x.code, .slice An x.names.length cn] #[.int .i64 x.kind, .int .i64 x.from_, .int .i64 x.to_, .int .u64 (x.term : Int), .int .u64 (x.index : Int), .int .u64 (x.logTerm : Int), .int .u64 (x.commit : Int), .int .u64 (x.ctx : Int), .bool x.okf, .bool x.force, .slice A1 es.length c1, .slice A2 z2.1.length c2, .slice A3 z2.2.length c3, .int .u64 (z3.id.ver : Int), .int .i64 z3.id.idx, .int .u64 (z3.id.ep : Int), .int .i64 z3.k, .int .i64 z3.n, .int .i64 z3.size, .int .u32 (z3.sum : Int), .slice Ad x.data.length cd, .int .u64 (x.client : Int), .int .u64 (x.seq : Int), .int .i64 x.op, .string (strOf x.key), .int .i64 x.code, .slice An x.names.length cn] #[.int .u64 (z3.id.ver : Int), .int .i64 z3.id.idx, .int .u64 (z3.id.ep : Int), .int .i64 z3.k, .int .i64 z3.n, .int .i64 z3.size, .int .u32 (z3.sum : Int)] rfl rfl BB.out.blk (by show 13 + 7 ≤ 27; decide) HSE.out Tryz.sizeH rfl ?_; intro wz14 hB9 hO9; have c20 : wz14.cell? ⟨b, 20, none⟩ = some (.slice Ad x.data.length cd) := hB9.out.cell 20))
  clear HSE
  have RR := Lh (RR.out.only hM.out KK.out.st hO9.out BB.out.free (by have := HBR.out; omega))
  have HE := Lh (HE.out.only hM.out KK.out.st hO9.out BB.out.free (fun h0 ad e => (HHE.out h0 ad e)))
  have HV := Lh (HV.out.only hM.out KK.out.st hO9.out BB.out.free (fun h0 ad e => (HHV.out h0 ad e)))
  have HLe := Lh (HLe.out.only hM.out KK.out.st hO9.out BB.out.free (fun h0 ad e => (HHLe.out h0 ad e)))
  have HD := Lh (HD.out.only hM.out KK.out.st hO9.out BB.out.free (fun h0 ad e => (HHD.out h0 ad e)))
  have HN := Lh (HN.out.only hM.out KK.out.st hO9.out BB.out.free (fun h0 ad e => (HHN.out h0 ad e)))
  have HEI := Lh (fun m hm => (HEI.out m hm).only KK.out.st hO9.out BB.out.free (Nat.le_refl _))
  have K2 := Lh (KK.out.only hM.out BB.out hO9.out)
  have BB := Lh (BB.out.turn hM.out KK.out.st hO9.out hB9.out)
  have KK := K2
  clear hB9 hO9
  have hle := LL.out
  have hc : Calls Tryz.prog 65 #[.pointer (some ⟨g, 0, none⟩), .slice Ad x.data.length cd] wz14 (RetP (wMd g) (y14 ++ (putN x.data.length ++ x.data)) (.slice Ad x.data.length cd) wz14) := pw_bytes g y14 Ad x.data.length cd x.data wz14 (Lh KK.out.st) (Lh HD.out.rd) hO.out.data.2 (by omega)
  clear hle
  obtain ⟨y15, ey⟩ : ∃ y, y14 ++ (putN x.data.length ++ x.data) = y := ⟨_, rfl⟩
  rw [ey] at hc
  have LL : Hid (y15.length ≤ 46080443355378) := Lh (by have h1 := LL.out; have hadd := (show (putN x.data.length ++ x.data).length ≤ 1048586 from pText_len hO.out.data); rw [← ey, List.length_append]; omega)
  have Y15 := Lh ey
  clear ey
  refine hc.mono ?_
  rintro e w15 ⟨rfl, hs, hk⟩
  clear hc
  have BB := Lh (BB.out.call hk)
  have RR := Lh (RR.out.call hk)
  have KK := Lh (KK.out.call hs hk)
  have HE := Lh (HE.out.call hk)
  have HV := Lh (HV.out.call hk)
  have HLe := Lh (HLe.out.call hk)
  have HD := Lh (HD.out.call hk)
  have HN := Lh (HN.out.call hk)
  have HEI := Lh (fun m hm => (HEI.out m hm).call hk)
  clear hk hs
  have hset : w15.setCell ⟨b, 20, none⟩ (.slice Ad x.data.length cd) = w15 := set_same_w BB.out.blk (i := 20) rfl
  have ci : w15.cell? ⟨b, 20, none⟩ = some (.slice Ad x.data.length cd) := BB.out.blk.cell 20
  have fi := BB.out.blk.frozen 20
  clear c20
  have c21 : w15.cell? ⟨b, 21, none⟩ = some (.int .u64 (x.client : Int)) := BB.out.blk.cell 21
  go_wp2_with fail
  clear hset ci fi
  have hle := LL.out
  have hc : Calls Tryz.prog 60 #[.pointer (some ⟨g, 0, none⟩), .int .u64 (x.client : Int)] w15 (RetP (wMd g) (y15 ++ (putN x.client)) (.int .u64 (x.client : Int)) w15) := hM.out.c_u64 y15 x.client w15 (Lh KK.out.st) hO.out.client (by show y15.length + 10 ≤ 70000000000000; omega)
  clear hle
  obtain ⟨y16, ey⟩ : ∃ y, y15 ++ (putN x.client) = y := ⟨_, rfl⟩
  rw [ey] at hc
  have LL : Hid (y16.length ≤ 46080443355388) := Lh (by have h1 := LL.out; have hadd := putN_len10 (n := x.client) hO.out.client; rw [← ey, List.length_append]; omega)
  have Y16 := Lh ey
  clear ey
  refine hc.mono ?_
  rintro e w16 ⟨rfl, hs, hk⟩
  clear hc
  have BB := Lh (BB.out.call hk)
  have RR := Lh (RR.out.call hk)
  have KK := Lh (KK.out.call hs hk)
  have HE := Lh (HE.out.call hk)
  have HV := Lh (HV.out.call hk)
  have HLe := Lh (HLe.out.call hk)
  have HD := Lh (HD.out.call hk)
  have HN := Lh (HN.out.call hk)
  have HEI := Lh (fun m hm => (HEI.out m hm).call hk)
  clear hk hs
  have hset : w16.setCell ⟨b, 21, none⟩ (.int .u64 (x.client : Int)) = w16 := set_same_w BB.out.blk (i := 21) rfl
  have ci : w16.cell? ⟨b, 21, none⟩ = some (.int .u64 (x.client : Int)) := BB.out.blk.cell 21
  have fi := BB.out.blk.frozen 21
  clear c21
  have c22 : w16.cell? ⟨b, 22, none⟩ = some (.int .u64 (x.seq : Int)) := BB.out.blk.cell 22
  go_wp2_with fail
  clear hset ci fi
  have hle := LL.out
  have hc : Calls Tryz.prog 60 #[.pointer (some ⟨g, 0, none⟩), .int .u64 (x.seq : Int)] w16 (RetP (wMd g) (y16 ++ (putN x.seq)) (.int .u64 (x.seq : Int)) w16) := hM.out.c_u64 y16 x.seq w16 (Lh KK.out.st) hO.out.seq (by show y16.length + 10 ≤ 70000000000000; omega)
  clear hle
  obtain ⟨y17, ey⟩ : ∃ y, y16 ++ (putN x.seq) = y := ⟨_, rfl⟩
  rw [ey] at hc
  have LL : Hid (y17.length ≤ 46080443355398) := Lh (by have h1 := LL.out; have hadd := putN_len10 (n := x.seq) hO.out.seq; rw [← ey, List.length_append]; omega)
  have Y17 := Lh ey
  clear ey
  refine hc.mono ?_
  rintro e w17 ⟨rfl, hs, hk⟩
  clear hc
  have BB := Lh (BB.out.call hk)
  have RR := Lh (RR.out.call hk)
  have KK := Lh (KK.out.call hs hk)
  have HE := Lh (HE.out.call hk)
  have HV := Lh (HV.out.call hk)
  have HLe := Lh (HLe.out.call hk)
  have HD := Lh (HD.out.call hk)
  have HN := Lh (HN.out.call hk)
  have HEI := Lh (fun m hm => (HEI.out m hm).call hk)
  clear hk hs
  have hset : w17.setCell ⟨b, 22, none⟩ (.int .u64 (x.seq : Int)) = w17 := set_same_w BB.out.blk (i := 22) rfl
  have ci : w17.cell? ⟨b, 22, none⟩ = some (.int .u64 (x.seq : Int)) := BB.out.blk.cell 22
  have fi := BB.out.blk.frozen 22
  clear c22
  have c23 : w17.cell? ⟨b, 23, none⟩ = some (.int .i64 x.op) := BB.out.blk.cell 23
  go_wp2_with fail
  clear hset ci fi
  have hle := LL.out
  have hc : Calls Tryz.prog 59 #[.pointer (some ⟨g, 0, none⟩), .int .i64 x.op] w17 (RetP (wMd g) (y17 ++ (putN (zz x.op))) (.int .i64 x.op) w17) := hM.out.c_int y17 x.op w17 (Lh KK.out.st) hO.out.op (by show y17.length + 10 ≤ 70000000000000; omega)
  clear hle
  obtain ⟨y18, ey⟩ : ∃ y, y17 ++ (putN (zz x.op)) = y := ⟨_, rfl⟩
  rw [ey] at hc
  have LL : Hid (y18.length ≤ 46080443355408) := Lh (by have h1 := LL.out; have hadd := (show (putN (zz x.op)).length ≤ 10 from pInt_len (x := x.op) hO.out.op); rw [← ey, List.length_append]; omega)
  have Y18 := Lh ey
  clear ey
  refine hc.mono ?_
  rintro e w18 ⟨rfl, hs, hk⟩
  clear hc
  have BB := Lh (BB.out.call hk)
  have RR := Lh (RR.out.call hk)
  have KK := Lh (KK.out.call hs hk)
  have HE := Lh (HE.out.call hk)
  have HV := Lh (HV.out.call hk)
  have HLe := Lh (HLe.out.call hk)
  have HD := Lh (HD.out.call hk)
  have HN := Lh (HN.out.call hk)
  have HEI := Lh (fun m hm => (HEI.out m hm).call hk)
  clear hk hs
  have hset : w18.setCell ⟨b, 23, none⟩ (.int .i64 x.op) = w18 := set_same_w BB.out.blk (i := 23) rfl
  have ci : w18.cell? ⟨b, 23, none⟩ = some (.int .i64 x.op) := BB.out.blk.cell 23
  have fi := BB.out.blk.frozen 23
  clear c23
  have c24 : w18.cell? ⟨b, 24, none⟩ = some (.string (strOf x.key)) := BB.out.blk.cell 24
  go_wp2_with fail
  clear hset ci fi
  have hle := LL.out
  have hc : Calls Tryz.prog 66 #[.pointer (some ⟨g, 0, none⟩), .string (strOf x.key)] w18 (RetP (wMd g) (y18 ++ (putN x.key.length ++ x.key)) (.string (strOf x.key)) w18) := hM.out.c_text y18 x.key w18 (Lh KK.out.st) hO.out.key (by show y18.length + 1048586 ≤ 70000000000000; omega)
  clear hle
  obtain ⟨y19, ey⟩ : ∃ y, y18 ++ (putN x.key.length ++ x.key) = y := ⟨_, rfl⟩
  rw [ey] at hc
  have LL : Hid (y19.length ≤ 46080444403994) := Lh (by have h1 := LL.out; have hadd := (show (putN x.key.length ++ x.key).length ≤ 1048586 from pText_len hO.out.key); rw [← ey, List.length_append]; omega)
  have Y19 := Lh ey
  clear ey
  refine hc.mono ?_
  rintro e w19 ⟨rfl, hs, hk⟩
  clear hc
  have BB := Lh (BB.out.call hk)
  have RR := Lh (RR.out.call hk)
  have KK := Lh (KK.out.call hs hk)
  have HE := Lh (HE.out.call hk)
  have HV := Lh (HV.out.call hk)
  have HLe := Lh (HLe.out.call hk)
  have HD := Lh (HD.out.call hk)
  have HN := Lh (HN.out.call hk)
  have HEI := Lh (fun m hm => (HEI.out m hm).call hk)
  clear hk hs
  have hset : w19.setCell ⟨b, 24, none⟩ (.string (strOf x.key)) = w19 := set_same_w BB.out.blk (i := 24) rfl
  have ci : w19.cell? ⟨b, 24, none⟩ = some (.string (strOf x.key)) := BB.out.blk.cell 24
  have fi := BB.out.blk.frozen 24
  clear c24
  have c25 : w19.cell? ⟨b, 25, none⟩ = some (.int .i64 x.code) := BB.out.blk.cell 25
  go_wp2_with fail
  clear hset ci fi
  have hle := LL.out
  have hc : Calls Tryz.prog 59 #[.pointer (some ⟨g, 0, none⟩), .int .i64 x.code] w19 (RetP (wMd g) (y19 ++ (putN (zz x.code))) (.int .i64 x.code) w19) := hM.out.c_int y19 x.code w19 (Lh KK.out.st) hO.out.code (by show y19.length + 10 ≤ 70000000000000; omega)
  clear hle
  obtain ⟨y20, ey⟩ : ∃ y, y19 ++ (putN (zz x.code)) = y := ⟨_, rfl⟩
  rw [ey] at hc
  have LL : Hid (y20.length ≤ 46080444404004) := Lh (by have h1 := LL.out; have hadd := (show (putN (zz x.code)).length ≤ 10 from pInt_len (x := x.code) hO.out.code); rw [← ey, List.length_append]; omega)
  have Y20 := Lh ey
  clear ey
  refine hc.mono ?_
  rintro e w20 ⟨rfl, hs, hk⟩
  clear hc
  have BB := Lh (BB.out.call hk)
  have RR := Lh (RR.out.call hk)
  have KK := Lh (KK.out.call hs hk)
  have HE := Lh (HE.out.call hk)
  have HV := Lh (HV.out.call hk)
  have HLe := Lh (HLe.out.call hk)
  have HD := Lh (HD.out.call hk)
  have HN := Lh (HN.out.call hk)
  have HEI := Lh (fun m hm => (HEI.out m hm).call hk)
  clear hk hs
  have hset : w20.setCell ⟨b, 25, none⟩ (.int .i64 x.code) = w20 := set_same_w BB.out.blk (i := 25) rfl
  have ci : w20.cell? ⟨b, 25, none⟩ = some (.int .i64 x.code) := BB.out.blk.cell 25
  have fi := BB.out.blk.frozen 25
  clear c25
  have c26 : w20.cell? ⟨b, 26, none⟩ = some (.slice An x.names.length cn) := BB.out.blk.cell 26
  go_wp2_with fail
  clear hset ci fi
  have hle := LL.out
  have hc : Calls Tryz.prog 67 #[.pointer (some ⟨g, 0, none⟩), .int .i64 (x.names.length : Int)] w20 (RetP (wMd g) (y20 ++ putN x.names.length) (.int .i64 (x.names.length : Int)) w20) := hM.out.c_len y20 x.names.length w20 (Lh KK.out.st) (by have := hO.out.names.2; omega) (by show y20.length + 10 ≤ 70000000000000; omega)
  clear hle
  obtain ⟨y21, ey⟩ : ∃ y, y20 ++ putN x.names.length = y := ⟨_, rfl⟩
  rw [ey] at hc
  have LL : Hid (y21.length ≤ 46080444404014) := Lh (by have h1 := LL.out; have hadd := putN_len10 (n := x.names.length) (by have := hO.out.names.2; omega); rw [← ey, List.length_append]; omega)
  have Y21 := Lh ey
  clear ey
  refine hc.mono ?_
  rintro e w21 ⟨rfl, hs, hk⟩
  clear hc
  have BB := Lh (BB.out.call hk)
  have RR := Lh (RR.out.call hk)
  have KK := Lh (KK.out.call hs hk)
  have HE := Lh (HE.out.call hk)
  have HV := Lh (HV.out.call hk)
  have HLe := Lh (HLe.out.call hk)
  have HD := Lh (HD.out.call hk)
  have HN := Lh (HN.out.call hk)
  have HEI := Lh (fun m hm => (HEI.out m hm).call hk)
  clear hk hs c26
  have HG0 := Lh (Gr.start 9 1 KK.out)
  have HBL := Lh (And.intro BB.out.blk.lt RR.out.blk.lt)
  have HNA := Lh (show 0 < x.names.length → ∀ ad, An = some ad → ad.block < w21.heap.size from fun h ad e => (HN.out.free h ad e).lt)
  go_wp2_with fail
  go_loopw [6, 7, 8] (fun vo vi _ wr => ∃ (k : Nat) (zs : List Value), k ≤ x.names.length ∧ vi = .int .i64 k ∧ Hid (Gr (wMd g) w w21 9 1 vo k zs (y21 ++ nmB (x.names.take k)) wr) ∧ Hid (Ls (wMd g) 1 An x.names.length (x.names.map stv) wr) ∧ Hid (Bk (wMd g) w b 38 #[.int .i64 x.kind, .int .i64 x.from_, .int .i64 x.to_, .int .u64 (x.term : Int), .int .u64 (x.index : Int), .int .u64 (x.logTerm : Int), .int .u64 (x.commit : Int), .int .u64 (x.ctx : Int), .bool x.okf, .bool x.force, .slice A1 es.length c1, .slice A2 z2.1.length c2, .slice A3 z2.2.length c3, .int .u64 (z3.id.ver : Int), .int .i64 z3.id.idx, .int .u64 (z3.id.ep : Int), .int .i64 z3.k, .int .i64 z3.n, .int .i64 z3.size, .int .u32 (z3.sum : Int), .slice Ad x.data.length cd, .int .u64 (x.client : Int), .int .u64 (x.seq : Int), .int .i64 x.op, .string (strOf x.key), .int .i64 x.code, .slice An x.names.length cn] wr) ∧ Hid (Bk (wMd g) w r 38 #[.int .i64 0, .int .i64 0, .int .i64 0, .int .u64 0, .int .u64 0, .int .u64 0, .int .u64 0, .int .u64 0, .bool false, .bool false, .slice none 0 0, .slice none 0 0, .slice none 0 0, .int .u64 0, .int .i64 0, .int .u64 0, .int .i64 0, .int .i64 0, .int .i64 0, .int .u32 0, .slice none 0 0, .int .u64 0, .int .u64 0, .int .i64 0, .string ⟨#[]⟩, .int .i64 0, .slice none 0 0] wr)) (fun _ vi _ _ => x.names.length - (intOf vi).toNat)
  case atStart => exact ⟨0, [], by omega, rfl, Lh (by have h := HG0.out; rw [List.take_zero, show nmB [] = [] from rfl, List.append_nil]; exact h), HN, BB, RR⟩
  case round =>
    obtain ⟨k, zs, hk, rfl, hG, hLr, hBr, hRr⟩ := hrel
    clear HG0 HN BB RR KK HE HV HLe HD HEI
    have hcw := hM.out.cbad hG.out.wk.st
    have hcb : wr.cell? ⟨g, 3, none⟩ = some (.bool false) := hcw
    clear hcw
    have cb : wr.cell? ⟨b, 26, none⟩ = some (.slice An x.names.length cn) := hBr.out.blk.cell 26
    by_cases hlt : k < x.names.length
    · as_aux_lemma =>
        have d1 : decide (k < x.names.length) = true := decide_eq_true hlt
        obtain ⟨ad, hA, hbl, hc⟩ := hLr.out.rd.2 (by omega : 0 < x.names.length)
        have hcell := hc k (stv x.names[k]) (by rw [List.getElem?_map, List.getElem?_eq_getElem hlt]; rfl)
        have htk := nmB_take hlt
        have hts := hO.out.names.1 _ (List.getElem_mem hlt)
        obtain ⟨s, hs⟩ : ∃ s, x.names[k] = s := ⟨_, rfl⟩
        rw [hs] at htk hts hcell
        have HTK := Lh htk
        have HTS := Lh hts
        unfold stv at hcell
        have hfk : (y21 ++ nmB (x.names.take k)).length + 1048586 ≤ 70000000000000 := by
          have h2 := LL.out
          have h3 := nmB_len (ns := x.names.take k) (fun m hm => hO.out.names.1 m (List.mem_of_mem_take hm))
          have h9 := hO.out.names.2
          rw [List.length_take, Nat.min_eq_left (by omega)] at h3
          rw [List.length_append]
          have h4 : k * 1048586 ≤ 1048576 * 1048586 := Nat.mul_le_mul_right _ (by omega)
          omega
        have hct : Calls Tryz.prog 66 #[.pointer (some ⟨g, 0, none⟩), .string (strOf s)] wr (RetP (wMd g) (y21 ++ nmB (x.names.take k) ++ (putN s.length ++ s)) (.string (strOf s)) wr) := hM.out.c_text _ s wr (Lh hG.out.wk.st) hts hfk
        have HCT := Lh hct
        have hn9 := hO.out.names.2
        subst hA
        clear hc hbl hs htk hts hct hfk
        go_wp2_with (first
              | (go_at_call 66; refine HCT.out.mono ?_; rintro e w6 ⟨rfl, hs, hk⟩
                 have L := Lh (hLr.out.call hk)
                 have B := Lh (hBr.out.call hk)
                 have R := Lh (hRr.out.call hk)
                 have G := Lh (hG.out.call hs hk)
                 clear hs hk)
              | (at_builtin
                 refine wpl_gr4 hM.out rfl _ _ 36 16 Tryz.underlying36 Tryz.infoStr (by decide) (by decide) rfl G.out (by omega) [Value.string (strOf s)] rfl (by intro u hu; rw [List.mem_singleton.1 hu]; rfl) rfl rfl ?_
                 intro v10 w10 hG10))
        refine ⟨⟨k + 1, zs ++ [Value.string (strOf s)], by omega, by go_num, Lh ?_, Lh (Ls.more hM.out (G.out.alloc hM.out _) hG10.out.2 (L.out.alloc hM.out G.out.wk.st _) HNA.out), Lh (Bk.more hM.out (G.out.alloc hM.out _) hG10.out.2 (B.out.alloc hM.out G.out.wk.st _) ?_), Lh (Bk.more hM.out (G.out.alloc hM.out _) hG10.out.2 (R.out.alloc hM.out G.out.wk.st _) ?_)⟩, by simp [intOf]; omega⟩
        · rw [HTK.out, ← List.append_assoc]
          exact hG10.out.1
        · exact HBL.out.1
        · exact HBL.out.2
    · obtain rfl : k = x.names.length := by omega
      rw [List.take_length] at hG
      obtain ⟨A9, c9, evo, -, -⟩ := own_slice hG.out.own
      have G := hG
      subst evo
      have f26 := hBr.out.blk.frozen 26
      have hB := hBr.out.blk.set_ 26 (.slice A9 x.names.length c9)
      have hO6 := Only.set_ wr b 26 (.slice A9 x.names.length c9)
      obtain ⟨wz, ez⟩ : ∃ wz, wr.setCell ⟨b, 26, none⟩ (.slice A9 x.names.length c9) = wz := ⟨_, rfl⟩
      rw [ez] at hB hO6
      have B6 : Hid (Blk wz b 38 #[.int .i64 x.kind, .int .i64 x.from_, .int .i64 x.to_, .int .u64 (x.term : Int), .int .u64 (x.index : Int), .int .u64 (x.logTerm : Int), .int .u64 (x.commit : Int), .int .u64 (x.ctx : Int), .bool x.okf, .bool x.force, .slice A1 es.length c1, .slice A2 z2.1.length c2, .slice A3 z2.2.length c3, .int .u64 (z3.id.ver : Int), .int .i64 z3.id.idx, .int .u64 (z3.id.ep : Int), .int .i64 z3.k, .int .i64 z3.n, .int .i64 z3.size, .int .u32 (z3.sum : Int), .slice Ad x.data.length cd, .int .u64 (x.client : Int), .int .u64 (x.seq : Int), .int .i64 x.op, .string (strOf x.key), .int .i64 x.code, .slice A9 x.names.length c9]) := Lh hB
      obtain ⟨cf, ecf⟩ : ∃ cf : Array Value, #[.int .i64 x.kind, .int .i64 x.from_, .int .i64 x.to_, .int .u64 (x.term : Int), .int .u64 (x.index : Int), .int .u64 (x.logTerm : Int), .int .u64 (x.commit : Int), .int .u64 (x.ctx : Int), .bool x.okf, .bool x.force, .slice A1 es.length c1, .slice A2 z2.1.length c2, .slice A3 z2.2.length c3, .int .u64 (z3.id.ver : Int), .int .i64 z3.id.idx, .int .u64 (z3.id.ep : Int), .int .i64 z3.k, .int .i64 z3.n, .int .i64 z3.size, .int .u32 (z3.sum : Int), .slice Ad x.data.length cd, .int .u64 (x.client : Int), .int .u64 (x.seq : Int), .int .i64 x.op, .string (strOf x.key), .int .i64 x.code, .slice A9 x.names.length c9] = cf := ⟨_, rfl⟩
      have hcs : cf.size = 27 := by rw [← ecf]; rfl
      have hco : cf.toList.all (·.oneCell') = true := by rw [← ecf]; rfl
      rw [ecf] at B6
      have HCS := Lh hcs
      have HCO := Lh hco
      clear hcs hco ecf
      have tkL := True.intro
      have tkS := True.intro
      have R6 := Lh (hRr.out.only hM.out hG.out.wk.st hO6 hBr.out.free (by have := HBR.out; omega))
      have K6 := Lh (hG.out.wk.only hM.out hBr.out hO6)
      clear hB hO6 hG
      go_upto_region 30 with (rw [ez])
      go_step
      refine wpl_load_blk rfl 38 (.tmp 3) rfl b 38 cf _ rfl B6.out Tryz.underlying38 rfl (by rw [HCS.out]; exact sizeMsg) ?_
      refine wpl_store_blk rfl 38 (.tmp 4) (.tmp 139) rfl r 38 #[.int .i64 0, .int .i64 0, .int .i64 0, .int .u64 0, .int .u64 0, .int .u64 0, .int .u64 0, .int .u64 0, .bool false, .bool false, .slice none 0 0, .slice none 0 0, .slice none 0 0, .int .u64 0, .int .i64 0, .int .u64 0, .int .i64 0, .int .i64 0, .int .i64 0, .int .u32 0, .slice none 0 0, .int .u64 0, .int .u64 0, .int .i64 0, .string ⟨#[]⟩, .int .i64 0, .slice none 0 0] cf rfl rfl R6.out.blk HCS.out.symm (by rw [HCS.out]; exact sizeMsg) HCO.out ?_
      intro w9 hB9 hO9
      go_simp
      go_step
      go_step
      go_step
      go_step
      refine bodyPost_ret (v := .agg cf) (res_c Tryz.results40 rfl (load_blk hB9.out Tryz.underlying38 rfl (by rw [HCS.out]; exact sizeMsg))) rfl ?_
      have h := K6.out.only hM.out R6.out hO9.out
      have hfin : ys ++ pMsg x = y21 ++ nmB x.names := by
        rw [← Y21.out]
        rw [← Y20.out]
        rw [← Y19.out]
        rw [← Y18.out]
        rw [← Y17.out]
        rw [← Y16.out]
        rw [← Y15.out]
        rw [← Y14.out]
        rw [← Y13.out]
        rw [← Y12.out]
        rw [← Y11.out]
        rw [← Y10.out]
        rw [← Y9.out]
        rw [← Y8.out]
        rw [← Y7.out]
        rw [← Y6.out]
        rw [← Y5.out]
        rw [← Y4.out]
        rw [← Y3.out]
        rw [← Y2.out]
        unfold pMsg pList nmB
        rw [HEQ.out, List.length_map, List.flatMap_map]
        have hf1 := w_flag x.okf
        have hf2 := w_flag x.force
        simp only [pText, pInt, emB, List.append_assoc, hf1, hf2]
      refine ⟨⟨_, rfl⟩, ?_, h.stp⟩
      show (wMd g).St (ys ++ pMsg x) w9
      rw [hfin]
      exact h.st
end Go.Proofs.YtijdbdenmcjmmaaGreatDoor
end
