/-
  wire.Put, OF ANY MESSAGE. (printed by gen_wirp2.py). (joined out of WirP2 by shake.py)
-/
import Derived.Maps.OwnSet
import Derived.Deep.Cut
import Derived.Handy
import Derived.Test.YtijdbdenmcjmmaaGreatDoorNen23
import Derived.Test.YtijdbdenmcjmmaaGreatDoorNen03
import Derived.Test.YtijdbdenmcjmmaaGreatDoorNen04
import Derived.Test.YtijdbdenmcjmmaaGreatDoorNen20
section
namespace Go.Proofs.YtijdbdenmcjmmaaGreatDoor
open Go.RowKit OctMath
set_option linter.unusedVariables false
set_option linter.unusedSimpArgs false
theorem emB_len : ∀ {es : List EM}, (∀ m ∈ es, EntOk m.x) → (emB es).length ≤ es.length * 42992040
  | [], _ => by simp [emB]
  | m :: es, h => by
    have h1 := emB_len (es := es) (fun x hx => h x (List.mem_cons_of_mem _ hx))
    have h2 := pEnt_len (h m (List.mem_cons_self ..))
    have e : emB (m :: es) = pEnt m.x ++ emB es := by simp [emB]
    rw [e, List.length_append, List.length_cons, Nat.succ_mul]
    omega
def nmB (ns : List (List Nat)) : List Nat := ns.flatMap pText
theorem nmB_take {ns : List (List Nat)} {k : Nat} (hk : k < ns.length) : nmB (ns.take (k + 1)) = nmB (ns.take k) ++ pText ns[k] := by
  unfold nmB
  rw [List.take_succ_eq_append_getElem hk, List.flatMap_append]
  simp
theorem nmB_len : ∀ {ns : List (List Nat)}, (∀ m ∈ ns, TxtOk m) → (nmB ns).length ≤ ns.length * 1048586
  | [], _ => by simp [nmB]
  | m :: ns, h => by
    have h1 := nmB_len (ns := ns) (fun x hx => h x (List.mem_cons_of_mem _ hx))
    have h2 := pText_len (h m (List.mem_cons_self ..))
    have e : nmB (m :: ns) = pText m ++ nmB ns := by simp [nmB]
    rw [e, List.length_append, List.length_cons, Nat.succ_mul]
    omega
theorem em_mem_ok {x : MsgT} {es : List EM} (h : MsgOk x) (e : x.ents = es.map (·.x)) : ∀ m ∈ es, EntOk m.x := fun m hm => h.ents.1 _ (by rw [e]; exact List.mem_map.2 ⟨m, hm, rfl⟩)
set_option maxRecDepth 100000 in
set_option maxHeartbeats 16000000 in
theorem Put_any (m : MG) (w : World) (hM : Hid (MgIn w m)) (hO : Hid (MsgOk m.x)) : Calls Tryz.prog 14 #[.agg (mgCs m)] w (RetB (pMsg m.x) w) := by
  obtain ⟨x, es, Ae, ce, Av, cv, Al, cl, Ad, cd, An, cn⟩ := m
  have he0 : mgCs ⟨x, es, Ae, ce, Av, cv, Al, cl, Ad, cd, An, cn⟩ = #[.int .i64 x.kind, .int .i64 x.from_, .int .i64 x.to_, .int .u64 (x.term : Int), .int .u64 (x.index : Int), .int .u64 (x.logTerm : Int), .int .u64 (x.commit : Int), .int .u64 (x.ctx : Int), .bool x.okf, .bool x.force, .slice Ae es.length ce, .slice Av x.vot.length cv, .slice Al x.lea.length cl, .int .u64 (x.head.id.ver : Int), .int .i64 x.head.id.idx, .int .u64 (x.head.id.ep : Int), .int .i64 x.head.k, .int .i64 x.head.n, .int .i64 x.head.size, .int .u32 (x.head.sum : Int), .slice Ad x.data.length cd, .int .u64 (x.client : Int), .int .u64 (x.seq : Int), .int .i64 x.op, .string (strOf x.key), .int .i64 x.code, .slice An x.names.length cn] := rfl
  rw [he0]
  clear he0
  have hO : Hid (MsgOk x) := hO
  have HEQ : Hid (x.ents = es.map (·.x)) := Lh hM.out.eq
  have HEL : Hid (es.length ≤ 1048576) := Lh (by have := hO.out.ents.2; rw [HEQ.out, List.length_map] at this; exact this)
  have HEO := Lh (em_mem_ok hO.out HEQ.out)
  have HE : Hid (Reads w w.heap.size 21 Ae es.length (es.flatMap emCs)) := Lh hM.out.ents
  have HEI : Hid (∀ e ∈ es, EmIn w e) := Lh hM.out.each
  have HV : Hid (Reads w w.heap.size 1 Av x.vot.length (x.vot.map iv)) := Lh hM.out.vot
  have HLe : Hid (Reads w w.heap.size 1 Al x.lea.length (x.lea.map iv)) := Lh hM.out.lea
  have HD : Hid (Reads w w.heap.size 1 Ad x.data.length (x.data.map bv)) := Lh hM.out.data
  have HN : Hid (Reads w w.heap.size 1 An x.names.length (x.names.map stv)) := Lh hM.out.names
  clear hM
  obtain ⟨w0, ew⟩ : ∃ w0, w.alloc (.cells #[.int .i64 x.kind, .int .i64 x.from_, .int .i64 x.to_, .int .u64 (x.term : Int), .int .u64 (x.index : Int), .int .u64 (x.logTerm : Int), .int .u64 (x.commit : Int), .int .u64 (x.ctx : Int), .bool x.okf, .bool x.force, .slice Ae es.length ce, .slice Av x.vot.length cv, .slice Al x.lea.length cl, .int .u64 (x.head.id.ver : Int), .int .i64 x.head.id.idx, .int .u64 (x.head.id.ep : Int), .int .i64 x.head.k, .int .i64 x.head.n, .int .i64 x.head.size, .int .u32 (x.head.sum : Int), .slice Ad x.data.length cd, .int .u64 (x.client : Int), .int .u64 (x.seq : Int), .int .i64 x.op, .string (strOf x.key), .int .i64 x.code, .slice An x.names.length cn] 38) = w0 := ⟨_, rfl⟩
  have hx : Blk (w.alloc (.cells #[.int .i64 x.kind, .int .i64 x.from_, .int .i64 x.to_, .int .u64 (x.term : Int), .int .u64 (x.index : Int), .int .u64 (x.logTerm : Int), .int .u64 (x.commit : Int), .int .u64 (x.ctx : Int), .bool x.okf, .bool x.force, .slice Ae es.length ce, .slice Av x.vot.length cv, .slice Al x.lea.length cl, .int .u64 (x.head.id.ver : Int), .int .i64 x.head.id.idx, .int .u64 (x.head.id.ep : Int), .int .i64 x.head.k, .int .i64 x.head.n, .int .i64 x.head.size, .int .u32 (x.head.sum : Int), .slice Ad x.data.length cd, .int .u64 (x.client : Int), .int .u64 (x.seq : Int), .int .i64 x.op, .string (strOf x.key), .int .i64 x.code, .slice An x.names.length cn] 38)) w.heap.size 38 #[.int .i64 x.kind, .int .i64 x.from_, .int .i64 x.to_, .int .u64 (x.term : Int), .int .u64 (x.index : Int), .int .u64 (x.logTerm : Int), .int .u64 (x.commit : Int), .int .u64 (x.ctx : Int), .bool x.okf, .bool x.force, .slice Ae es.length ce, .slice Av x.vot.length cv, .slice Al x.lea.length cl, .int .u64 (x.head.id.ver : Int), .int .i64 x.head.id.idx, .int .u64 (x.head.id.ep : Int), .int .i64 x.head.k, .int .i64 x.head.n, .int .i64 x.head.size, .int .u32 (x.head.sum : Int), .slice Ad x.data.length cd, .int .u64 (x.client : Int), .int .u64 (x.seq : Int), .int .i64 x.op, .string (strOf x.key), .int .i64 x.code, .slice An x.names.length cn] := Blk.new w _ _
  have hb : Below w.heap.size w (w.alloc (.cells #[.int .i64 x.kind, .int .i64 x.from_, .int .i64 x.to_, .int .u64 (x.term : Int), .int .u64 (x.index : Int), .int .u64 (x.logTerm : Int), .int .u64 (x.commit : Int), .int .u64 (x.ctx : Int), .bool x.okf, .bool x.force, .slice Ae es.length ce, .slice Av x.vot.length cv, .slice Al x.lea.length cl, .int .u64 (x.head.id.ver : Int), .int .i64 x.head.id.idx, .int .u64 (x.head.id.ep : Int), .int .i64 x.head.k, .int .i64 x.head.n, .int .i64 x.head.size, .int .u32 (x.head.sum : Int), .slice Ad x.data.length cd, .int .u64 (x.client : Int), .int .u64 (x.seq : Int), .int .i64 x.op, .string (strOf x.key), .int .i64 x.code, .slice An x.names.length cn] 38)) := (Below.refl _ _).alloc (Nat.le_refl _) _
  rw [ew] at hx hb
  have BB := Lh hx
  have KB := Lh hb
  have RR : Hid (Reads w0 w0.heap.size 1 none 0 (([] : List Nat).map bv)) := Lh (Reads.none_)
  have LL : Hid (([] : List Nat).length ≤ 0) := Lh (Nat.le_refl _)
  clear hx hb
  go_enter Tryz.func14, Tryz.ntmps14
  have c0 : w0.cell? ⟨w.heap.size, 0, none⟩ = some (.int .i64 x.kind) := BB.out.cell 0
  go_wp2_with (rw [ew])
  clear ew
  have hle := LL.out
  have hrl := reads_len RR.out
  have hc := putintB none 0 0 ([] : List Nat) w0 RR (x.kind) (hO.out.kind).1 (hO.out.kind).2 (by omega)
  clear hle hrl
  obtain ⟨y1, ey⟩ : ∃ y, ([] : List Nat) ++ putN (zz (x.kind)) = y := ⟨_, rfl⟩
  rw [ey] at hc
  have LL : Hid (y1.length ≤ 10) := Lh (by have h1 := LL.out; have hadd := (show (putN (zz (x.kind))).length ≤ 10 from pInt_len (x := x.kind) (hO.out.kind)); rw [← ey, List.length_append]; omega)
  have Y1 := Lh ey
  clear ey
  refine hc.mono ?_
  rintro e w1 ⟨A1, l1, n1, rfl, RR, hb, le1, le2⟩
  have LE := Lh (And.intro le1 le2)
  clear le1 le2
  have BB := Lh (BB.out.below hb BB.out.lt)
  have KB := Lh (KB.out.trans (hb.mono KB.out.size))
  clear hb hc
  clear c0
  have c1 : w1.cell? ⟨w.heap.size, 1, none⟩ = some (.int .i64 x.from_) := BB.out.cell 1
  go_wp2_with fail
  have hle := LL.out
  have hrl := reads_len RR.out
  have hc := putintB A1 n1 l1 y1 w1 RR (x.from_) (hO.out.from_).1 (hO.out.from_).2 (by omega)
  clear hle hrl
  obtain ⟨y2, ey⟩ : ∃ y, y1 ++ putN (zz (x.from_)) = y := ⟨_, rfl⟩
  rw [ey] at hc
  have LL : Hid (y2.length ≤ 20) := Lh (by have h1 := LL.out; have hadd := (show (putN (zz (x.from_))).length ≤ 10 from pInt_len (x := x.from_) (hO.out.from_)); rw [← ey, List.length_append]; omega)
  have Y2 := Lh ey
  clear ey
  refine hc.mono ?_
  rintro e w2 ⟨A2, l2, n2, rfl, RR, hb, le1, le2⟩
  have LE := Lh (And.intro le1 le2)
  clear le1 le2
  have BB := Lh (BB.out.below hb BB.out.lt)
  have KB := Lh (KB.out.trans (hb.mono KB.out.size))
  clear hb hc
  clear c1
  have c2 : w2.cell? ⟨w.heap.size, 2, none⟩ = some (.int .i64 x.to_) := BB.out.cell 2
  go_wp2_with fail
  have hle := LL.out
  have hrl := reads_len RR.out
  have hc := putintB A2 n2 l2 y2 w2 RR (x.to_) (hO.out.to_).1 (hO.out.to_).2 (by omega)
  clear hle hrl
  obtain ⟨y3, ey⟩ : ∃ y, y2 ++ putN (zz (x.to_)) = y := ⟨_, rfl⟩
  rw [ey] at hc
  have LL : Hid (y3.length ≤ 30) := Lh (by have h1 := LL.out; have hadd := (show (putN (zz (x.to_))).length ≤ 10 from pInt_len (x := x.to_) (hO.out.to_)); rw [← ey, List.length_append]; omega)
  have Y3 := Lh ey
  clear ey
  refine hc.mono ?_
  rintro e w3 ⟨A3, l3, n3, rfl, RR, hb, le1, le2⟩
  have LE := Lh (And.intro le1 le2)
  clear le1 le2
  have BB := Lh (BB.out.below hb BB.out.lt)
  have KB := Lh (KB.out.trans (hb.mono KB.out.size))
  clear hb hc
  clear c2
  have c3 : w3.cell? ⟨w.heap.size, 3, none⟩ = some (.int .u64 (x.term : Int)) := BB.out.cell 3
  have c4 : w3.cell? ⟨w.heap.size, 4, none⟩ = some (.int .u64 (x.index : Int)) := BB.out.cell 4
  have c5 : w3.cell? ⟨w.heap.size, 5, none⟩ = some (.int .u64 (x.logTerm : Int)) := BB.out.cell 5
  have c6 : w3.cell? ⟨w.heap.size, 6, none⟩ = some (.int .u64 (x.commit : Int)) := BB.out.cell 6
  have c7 : w3.cell? ⟨w.heap.size, 7, none⟩ = some (.int .u64 (x.ctx : Int)) := BB.out.cell 7
  go_wp2_with fail
  have ix0 : ∀ W, (Instr.index 97 (.agg #[.int .u64 (x.term : Int), .int .u64 (x.index : Int), .int .u64 (x.logTerm : Int), .int .u64 (x.commit : Int), .int .u64 (x.ctx : Int)]) (.int .i64 0)).run Tryz.prog W = .ok (.int .u64 (x.term : Int)) W := fun W => by kernel_rfl
  have ix1 : ∀ W, (Instr.index 97 (.agg #[.int .u64 (x.term : Int), .int .u64 (x.index : Int), .int .u64 (x.logTerm : Int), .int .u64 (x.commit : Int), .int .u64 (x.ctx : Int)]) (.int .i64 1)).run Tryz.prog W = .ok (.int .u64 (x.index : Int)) W := fun W => by kernel_rfl
  have ix2 : ∀ W, (Instr.index 97 (.agg #[.int .u64 (x.term : Int), .int .u64 (x.index : Int), .int .u64 (x.logTerm : Int), .int .u64 (x.commit : Int), .int .u64 (x.ctx : Int)]) (.int .i64 2)).run Tryz.prog W = .ok (.int .u64 (x.logTerm : Int)) W := fun W => by kernel_rfl
  have ix3 : ∀ W, (Instr.index 97 (.agg #[.int .u64 (x.term : Int), .int .u64 (x.index : Int), .int .u64 (x.logTerm : Int), .int .u64 (x.commit : Int), .int .u64 (x.ctx : Int)]) (.int .i64 3)).run Tryz.prog W = .ok (.int .u64 (x.commit : Int)) W := fun W => by kernel_rfl
  have ix4 : ∀ W, (Instr.index 97 (.agg #[.int .u64 (x.term : Int), .int .u64 (x.index : Int), .int .u64 (x.logTerm : Int), .int .u64 (x.commit : Int), .int .u64 (x.ctx : Int)]) (.int .i64 4)).run Tryz.prog W = .ok (.int .u64 (x.ctx : Int)) W := fun W => by kernel_rfl
  refine wp_loop_rounds 7 ?_
  rw [rounds_succ]
  go_wp2_with fail
  have hle := LL.out
  have hrl := reads_len RR.out
  have hc := putnumB A3 n3 l3 y3 w3 RR (x.term) (hO.out.term) (by omega)
  clear hle hrl
  obtain ⟨y4, ey⟩ : ∃ y, y3 ++ putN (x.term) = y := ⟨_, rfl⟩
  rw [ey] at hc
  have LL : Hid (y4.length ≤ 40) := Lh (by have h1 := LL.out; have hadd := putN_len10 (n := x.term) (hO.out.term); rw [← ey, List.length_append]; omega)
  have Y4 := Lh ey
  clear ey
  refine hc.mono ?_
  rintro e w4 ⟨A4, l4, n4, rfl, RR, hb, le1, le2⟩
  have LE := Lh (And.intro le1 le2)
  clear le1 le2
  have BB := Lh (BB.out.below hb BB.out.lt)
  have KB := Lh (KB.out.trans (hb.mono KB.out.size))
  clear hb hc
  go_wp2_with fail
  rw [rounds_succ]
  go_wp2_with fail
  have hle := LL.out
  have hrl := reads_len RR.out
  have hc := putnumB A4 n4 l4 y4 w4 RR (x.index) (hO.out.index) (by omega)
  clear hle hrl
  obtain ⟨y5, ey⟩ : ∃ y, y4 ++ putN (x.index) = y := ⟨_, rfl⟩
  rw [ey] at hc
  have LL : Hid (y5.length ≤ 50) := Lh (by have h1 := LL.out; have hadd := putN_len10 (n := x.index) (hO.out.index); rw [← ey, List.length_append]; omega)
  have Y5 := Lh ey
  clear ey
  refine hc.mono ?_
  rintro e w5 ⟨A5, l5, n5, rfl, RR, hb, le1, le2⟩
  have LE := Lh (And.intro le1 le2)
  clear le1 le2
  have BB := Lh (BB.out.below hb BB.out.lt)
  have KB := Lh (KB.out.trans (hb.mono KB.out.size))
  clear hb hc
  go_wp2_with fail
  rw [rounds_succ]
  go_wp2_with fail
  have hle := LL.out
  have hrl := reads_len RR.out
  have hc := putnumB A5 n5 l5 y5 w5 RR (x.logTerm) (hO.out.logTerm) (by omega)
  clear hle hrl
  obtain ⟨y6, ey⟩ : ∃ y, y5 ++ putN (x.logTerm) = y := ⟨_, rfl⟩
  rw [ey] at hc
  have LL : Hid (y6.length ≤ 60) := Lh (by have h1 := LL.out; have hadd := putN_len10 (n := x.logTerm) (hO.out.logTerm); rw [← ey, List.length_append]; omega)
  have Y6 := Lh ey
  clear ey
  refine hc.mono ?_
  rintro e w6 ⟨A6, l6, n6, rfl, RR, hb, le1, le2⟩
  have LE := Lh (And.intro le1 le2)
  clear le1 le2
  have BB := Lh (BB.out.below hb BB.out.lt)
  have KB := Lh (KB.out.trans (hb.mono KB.out.size))
  clear hb hc
  go_wp2_with fail
  rw [rounds_succ]
  go_wp2_with fail
  have hle := LL.out
  have hrl := reads_len RR.out
  have hc := putnumB A6 n6 l6 y6 w6 RR (x.commit) (hO.out.commit) (by omega)
  clear hle hrl
  obtain ⟨y7, ey⟩ : ∃ y, y6 ++ putN (x.commit) = y := ⟨_, rfl⟩
  rw [ey] at hc
  have LL : Hid (y7.length ≤ 70) := Lh (by have h1 := LL.out; have hadd := putN_len10 (n := x.commit) (hO.out.commit); rw [← ey, List.length_append]; omega)
  have Y7 := Lh ey
  clear ey
  refine hc.mono ?_
  rintro e w7 ⟨A7, l7, n7, rfl, RR, hb, le1, le2⟩
  have LE := Lh (And.intro le1 le2)
  clear le1 le2
  have BB := Lh (BB.out.below hb BB.out.lt)
  have KB := Lh (KB.out.trans (hb.mono KB.out.size))
  clear hb hc
  go_wp2_with fail
  rw [rounds_succ]
  go_wp2_with fail
  have hle := LL.out
  have hrl := reads_len RR.out
  have hc := putnumB A7 n7 l7 y7 w7 RR (x.ctx) (hO.out.ctx) (by omega)
  clear hle hrl
  obtain ⟨y8, ey⟩ : ∃ y, y7 ++ putN (x.ctx) = y := ⟨_, rfl⟩
  rw [ey] at hc
  have LL : Hid (y8.length ≤ 80) := Lh (by have h1 := LL.out; have hadd := putN_len10 (n := x.ctx) (hO.out.ctx); rw [← ey, List.length_append]; omega)
  have Y8 := Lh ey
  clear ey
  refine hc.mono ?_
  rintro e w8 ⟨A8, l8, n8, rfl, RR, hb, le1, le2⟩
  have LE := Lh (And.intro le1 le2)
  clear le1 le2
  have BB := Lh (BB.out.below hb BB.out.lt)
  have KB := Lh (KB.out.trans (hb.mono KB.out.size))
  clear hb hc
  go_wp2_with fail
  clear c3 c4 c5 c6 c7
  have c8 : w8.cell? ⟨w.heap.size, 8, none⟩ = some (.bool x.okf) := BB.out.cell 8
  rw [rounds_succ]
  go_wp2_with fail
  clear ix0 ix1 ix2 ix3 ix4
  have hle := LL.out
  have hrl := reads_len RR.out
  have hc := putflagB A8 n8 l8 y8 w8 RR (x.okf) (by omega)
  clear hle hrl
  obtain ⟨y9, ey⟩ : ∃ y, y8 ++ [(x.okf).toNat] = y := ⟨_, rfl⟩
  rw [ey] at hc
  have LL : Hid (y9.length ≤ 81) := Lh (by have h1 := LL.out; have hadd := (show ([(x.okf).toNat] : List Nat).length ≤ 1 from Nat.le_refl _); rw [← ey, List.length_append]; omega)
  have Y9 := Lh ey
  clear ey
  refine hc.mono ?_
  rintro e w9 ⟨A9, l9, n9, rfl, RR, hb, le1, le2⟩
  have LE := Lh (And.intro le1 le2)
  clear le1 le2
  have BB := Lh (BB.out.below hb BB.out.lt)
  have KB := Lh (KB.out.trans (hb.mono KB.out.size))
  clear hb hc
  clear c8
  have c9 : w9.cell? ⟨w.heap.size, 9, none⟩ = some (.bool x.force) := BB.out.cell 9
  go_wp2_with fail
  have hle := LL.out
  have hrl := reads_len RR.out
  have hc := putflagB A9 n9 l9 y9 w9 RR (x.force) (by omega)
  clear hle hrl
  obtain ⟨y10, ey⟩ : ∃ y, y9 ++ [(x.force).toNat] = y := ⟨_, rfl⟩
  rw [ey] at hc
  have LL : Hid (y10.length ≤ 82) := Lh (by have h1 := LL.out; have hadd := (show ([(x.force).toNat] : List Nat).length ≤ 1 from Nat.le_refl _); rw [← ey, List.length_append]; omega)
  have Y10 := Lh ey
  clear ey
  refine hc.mono ?_
  rintro e w10 ⟨A10, l10, n10, rfl, RR, hb, le1, le2⟩
  have LE := Lh (And.intro le1 le2)
  clear le1 le2
  have BB := Lh (BB.out.below hb BB.out.lt)
  have KB := Lh (KB.out.trans (hb.mono KB.out.size))
  clear hb hc
  clear c9
  have c10 : w10.cell? ⟨w.heap.size, 10, none⟩ = some (.slice Ae es.length ce) := BB.out.cell 10
  have heU : IntKind.u64.wrap (es.length : Int) = (es.length : Int) := by have := HEL.out; rw [IntKind.wrap_u64]; omega
  go_wp2_with fail
  have hle := LL.out
  have hrl := reads_len RR.out
  have hc := putnumB A10 n10 l10 y10 w10 RR (es.length) (by have := HEL.out; omega) (by omega)
  clear hle hrl
  obtain ⟨y11, ey⟩ : ∃ y, y10 ++ putN (es.length) = y := ⟨_, rfl⟩
  rw [ey] at hc
  have LL : Hid (y11.length ≤ 92) := Lh (by have h1 := LL.out; have hadd := putN_len10 (n := es.length) (by have := HEL.out; omega); rw [← ey, List.length_append]; omega)
  have Y11 := Lh ey
  clear ey
  refine hc.mono ?_
  rintro e w11 ⟨A11, l11, n11, rfl, RR, hb, le1, le2⟩
  have LE := Lh (And.intro le1 le2)
  clear le1 le2
  have BB := Lh (BB.out.below hb BB.out.lt)
  have KB := Lh (KB.out.trans (hb.mono KB.out.size))
  clear hb hc
  clear heU
  clear c10
  have c10 : w11.cell? ⟨w.heap.size, 10, none⟩ = some (.slice Ae es.length ce) := BB.out.cell 10
  go_wp2_with fail
  have HWl := Lh (BB.out.lt)
  go_loopw [3, 56] (fun vb vi wr => ∃ (k : Nat) (B : Option Addr) (bl bc : Nat), k ≤ es.length ∧ vi = .int .i64 k ∧ vb = .slice B bl bc ∧ Hid (Reads wr wr.heap.size 1 B bl ((y11 ++ emB (es.take k)).map bv)) ∧ Hid (Below w11.heap.size w11 wr)) (fun _ vi _ => es.length - (intOf vi).toNat)
  case atStart => exact ⟨0, _, _, _, Nat.zero_le _, rfl, rfl, Lh (by have h := RR.out; rw [List.take_zero, show emB ([] : List EM) = [] from rfl, List.append_nil]; exact h), Lh (Below.refl _ _)⟩
  case round =>
    obtain ⟨k, B, bl, bc, hk, rfl, rfl, hB, hW⟩ := hrel
    by_cases hlt : k < es.length
    · as_aux_lemma =>
        have dk : decide (k < es.length) = true := decide_eq_true hlt
        have hel := HEL.out
        have KW := Lh (KB.out.trans (hW.out.mono KB.out.size))
        obtain ⟨ad, hA, hadb, hcl⟩ := (HE.out.later KW.out).2 (by omega)
        have hm0 := List.getElem_mem hlt
        have hrow := em_cells hcl hlt
        have htk := emB_take hlt
        obtain ⟨m, hm⟩ : ∃ m, es[k] = m := ⟨_, rfl⟩
        rw [hm] at hm0 hrow htk
        have HROW := Lh hrow
        have HTK := Lh htk
        have HM := Lh (HEI.out m hm0)
        have HOK := Lh (HEO.out m hm0)
        have HADB := Lh (show (ad.add (k * 21)).block < wr.heap.size from by rw [block_of_add]; exact hadb)
        have hlen : bl + 42992040 ≤ 70000000000000 := by
          have h1 := reads_len hB.out; have h2 := LL.out
          have h3 := emB_len (es := es.take k) (fun m hm => HEO.out m (List.mem_of_mem_take hm))
          rw [List.length_take, Nat.min_eq_left (by omega)] at h3
          rw [List.length_append] at h1
          have h4 : k * 42992040 ≤ 1048576 * 42992040 := Nat.mul_le_mul_right _ (by omega)
          omega
        have HLEN := Lh hlen
        subst hA
        clear hm hm0 hrow htk hcl hadb hlen
        go_wp2_with (first
          | (refine wpl_load_at rfl 86 (.tmp 58) rfl (ad.add (k * 21)) (#[.int .u64 (m.x.index : Int), .int .u64 (m.x.term : Int), .int .i64 m.x.kind, .int .i64 m.x.cmd.kind, .int .u64 (m.x.cmd.client : Int), .int .u64 (m.x.cmd.seq : Int), .string (strOf m.x.cmd.key), .int .i64 m.x.cmd.size, .int .u32 (m.x.cmd.sum : Int), .int .u64 (m.x.cmd.version : Int), .int .u64 (m.x.cmd.epoch : Int), .int .i64 m.x.cmd.group, .int .i64 m.x.cmd.node, .bool m.x.cmd.up, .int .u64 (m.x.cmd.id.ver : Int), .int .i64 m.x.cmd.id.idx, .int .u64 (m.x.cmd.id.ep : Int), .int .u64 (m.x.cmd.mep : Int), .slice m.A m.x.cmd.mem.length m.c, .slice m.B m.x.voters.length m.d, .slice m.E m.x.learners.length m.f] : Array Value).toList _ rfl HROW.out Tryz.underlying86 rfl Tryz.sizeE ?_)
          | (refine wpl_store_blk rfl 86 (.tmp 7) (.tmp 59) rfl wr.heap.size 86 #[.int .u64 0, .int .u64 0, .int .i64 0, .int .i64 0, .int .u64 0, .int .u64 0, .string ⟨#[]⟩, .int .i64 0, .int .u32 0, .int .u64 0, .int .u64 0, .int .i64 0, .int .i64 0, .bool false, .int .u64 0, .int .i64 0, .int .u64 0, .int .u64 0, .slice none 0 0, .slice none 0 0, .slice none 0 0] #[.int .u64 (m.x.index : Int), .int .u64 (m.x.term : Int), .int .i64 m.x.kind, .int .i64 m.x.cmd.kind, .int .u64 (m.x.cmd.client : Int), .int .u64 (m.x.cmd.seq : Int), .string (strOf m.x.cmd.key), .int .i64 m.x.cmd.size, .int .u32 (m.x.cmd.sum : Int), .int .u64 (m.x.cmd.version : Int), .int .u64 (m.x.cmd.epoch : Int), .int .i64 m.x.cmd.group, .int .i64 m.x.cmd.node, .bool m.x.cmd.up, .int .u64 (m.x.cmd.id.ver : Int), .int .i64 m.x.cmd.id.idx, .int .u64 (m.x.cmd.id.ep : Int), .int .u64 (m.x.cmd.mep : Int), .slice m.A m.x.cmd.mem.length m.c, .slice m.B m.x.voters.length m.d, .slice m.E m.x.learners.length m.f] rfl rfl (Blk.new wr _ _) rfl Tryz.sizeE rfl ?_; intro wb hB1 hO1
             have hs : Below wr.heap.size wr wb := ((Below.refl _ _).alloc (Nat.le_refl _) _).trans (hO1.out.below (Nat.le_refl _))
             have HX := hB1
             have HS := Lh hs
             have HB2 := Lh (KW.out.trans (hs.mono KW.out.size))
             clear hs hO1 hB1)
          | (refine wpl_load_blk rfl 86 (.tmp 7) rfl wr.heap.size 86 #[.int .u64 (m.x.index : Int), .int .u64 (m.x.term : Int), .int .i64 m.x.kind, .int .i64 m.x.cmd.kind, .int .u64 (m.x.cmd.client : Int), .int .u64 (m.x.cmd.seq : Int), .string (strOf m.x.cmd.key), .int .i64 m.x.cmd.size, .int .u32 (m.x.cmd.sum : Int), .int .u64 (m.x.cmd.version : Int), .int .u64 (m.x.cmd.epoch : Int), .int .i64 m.x.cmd.group, .int .i64 m.x.cmd.node, .bool m.x.cmd.up, .int .u64 (m.x.cmd.id.ver : Int), .int .i64 m.x.cmd.id.idx, .int .u64 (m.x.cmd.id.ep : Int), .int .u64 (m.x.cmd.mep : Int), .slice m.A m.x.cmd.mem.length m.c, .slice m.B m.x.voters.length m.d, .slice m.E m.x.learners.length m.f] _ rfl HX.out Tryz.underlying86 rfl Tryz.sizeE ?_)
          | (go_at_call 35; refine (putb_entry B bl bc (y11 ++ emB (es.take k)) m.A m.c m.B m.d m.E m.f m.x wb (Lh (hB.out.later HS.out)) (Lh (HM.out.r1.later HB2.out)) (Lh (HM.out.r2.later HB2.out)) (Lh (HM.out.r3.later HB2.out)) HOK.out HLEN.out).mono ?_; rintro e wd ⟨B2, b2c, rfl, r2, hb2, u1, u2⟩
             have HR2 := Lh r2
             have HS2 := Lh (HS.out.trans (hb2.mono HS.out.size))
             clear r2 hb2 u1 u2))
        refine ⟨⟨k + 1, B2, _, b2c, by omega, by go_num, rfl, Lh ?_, Lh (hW.out.trans (HS2.out.mono hW.out.size))⟩, by simp [intOf]; omega⟩
        rw [HTK.out, ← List.append_assoc]
        have hr9 := HR2.out
        rw [List.length_append, List.length_append, Nat.add_assoc] at hr9
        exact hr9
    · obtain rfl : k = es.length := by omega
      obtain ⟨we, hwe⟩ : ∃ we, we = wr := ⟨_, rfl⟩
      subst hwe
      rw [List.take_length] at hB
      have BB := Lh (BB.out.below hW.out HWl.out)
      have KB := Lh (KB.out.trans (hW.out.mono KB.out.size))
      obtain ⟨y12, ey⟩ : ∃ y, y11 ++ emB es = y := ⟨_, rfl⟩
      rw [ey] at hB
      have LL : Hid (y12.length ≤ 45080421335132) := Lh (by have h1 := LL.out; have h2 := HEL.out; have h3 := emB_len HEO.out; have h4 : es.length * 42992040 ≤ 1048576 * 42992040 := Nat.mul_le_mul_right _ h2; rw [← ey, List.length_append]; omega)
      have Y12 := Lh ey
      have RR := hB
      clear ey hB hW HWl hlt hk
      clear c10
      have c11 : we.cell? ⟨w.heap.size, 11, none⟩ = some (.slice Av x.vot.length cv) := BB.out.cell 11
      have c12 : we.cell? ⟨w.heap.size, 12, none⟩ = some (.slice Al x.lea.length cl) := BB.out.cell 12
      go_wp2_with fail
      have hle := LL.out
      have hrl := reads_len RR.out
      have hc := put_conf B bl bc y12 Av cv Al cl (x.vot, x.lea) we RR (Lh (HV.out.later KB.out)) (Lh (HLe.out.later KB.out)) hO.out.conf (by omega)
      clear hle hrl
      obtain ⟨y13, ey⟩ : ∃ y, y12 ++ pConf (x.vot, x.lea) = y := ⟨_, rfl⟩
      rw [ey] at hc
      have LL : Hid (y13.length ≤ 45080442306722) := Lh (by have h1 := LL.out; have hadd := pConf_len (x := (x.vot, x.lea)) hO.out.conf; rw [← ey, List.length_append]; omega)
      have Y13 := Lh ey
      clear ey
      refine hc.mono ?_
      rintro e w13 ⟨A13, n13, rfl, R13, hb⟩
      have RR := Lh R13
      have BB := Lh (BB.out.below hb BB.out.lt)
      have KB := Lh (KB.out.trans (hb.mono KB.out.size))
      clear hb hc
      clear c11 c12
      have c13 : w13.cell? ⟨w.heap.size, 13, none⟩ = some (.int .u64 (x.head.id.ver : Int)) := BB.out.cell 13
      have c14 : w13.cell? ⟨w.heap.size, 14, none⟩ = some (.int .i64 x.head.id.idx) := BB.out.cell 14
      have c15 : w13.cell? ⟨w.heap.size, 15, none⟩ = some (.int .u64 (x.head.id.ep : Int)) := BB.out.cell 15
      have c16 : w13.cell? ⟨w.heap.size, 16, none⟩ = some (.int .i64 x.head.k) := BB.out.cell 16
      have c17 : w13.cell? ⟨w.heap.size, 17, none⟩ = some (.int .i64 x.head.n) := BB.out.cell 17
      have c18 : w13.cell? ⟨w.heap.size, 18, none⟩ = some (.int .i64 x.head.size) := BB.out.cell 18
      have c19 : w13.cell? ⟨w.heap.size, 19, none⟩ = some (.int .u32 (x.head.sum : Int)) := BB.out.cell 19
      go_wp2_with fail
      have hle := LL.out
      have hrl := reads_len RR.out
      have hc := put_header A13 y13.length n13 y13 x.head w13 RR hO.out.head (by omega)
      clear hle hrl
      obtain ⟨y14, ey⟩ : ∃ y, y13 ++ pHd x.head = y := ⟨_, rfl⟩
      rw [ey] at hc
      have LL : Hid (y14.length ≤ 45080442306792) := Lh (by have h1 := LL.out; have hadd := pHd_len hO.out.head; rw [← ey, List.length_append]; omega)
      have Y14 := Lh ey
      clear ey
      refine hc.mono ?_
      rintro e w14 ⟨A14, n14, rfl, R14, hb⟩
      have RR := Lh R14
      have BB := Lh (BB.out.below hb BB.out.lt)
      have KB := Lh (KB.out.trans (hb.mono KB.out.size))
      clear hb hc
      clear c13 c14 c15 c16 c17 c18 c19
      have c20 : w14.cell? ⟨w.heap.size, 20, none⟩ = some (.slice Ad x.data.length cd) := BB.out.cell 20
      go_wp2_with fail
      have hle := LL.out
      have hrl := reads_len RR.out
      have hc := putbytesB A14 n14 y14.length y14 w14 RR Ad cd x.data.length x.data (Lh (HD.out.later KB.out)) (by have := hO.out.data.2; omega)
      clear hle hrl
      obtain ⟨y15, ey⟩ : ∃ y, y14 ++ (putN x.data.length ++ x.data) = y := ⟨_, rfl⟩
      rw [ey] at hc
      have LL : Hid (y15.length ≤ 45080443355378) := Lh (by have h1 := LL.out; have hadd := (show (putN x.data.length ++ x.data).length ≤ 1048586 from pText_len hO.out.data); rw [← ey, List.length_append]; omega)
      have Y15 := Lh ey
      clear ey
      refine hc.mono ?_
      rintro e w15 ⟨A15, l15, n15, rfl, RR, hb, le1, le2⟩
      have LE := Lh (And.intro le1 le2)
      clear le1 le2
      have BB := Lh (BB.out.below hb BB.out.lt)
      have KB := Lh (KB.out.trans (hb.mono KB.out.size))
      clear hb hc
      clear c20
      have c21 : w15.cell? ⟨w.heap.size, 21, none⟩ = some (.int .u64 (x.client : Int)) := BB.out.cell 21
      go_wp2_with fail
      have hle := LL.out
      have hrl := reads_len RR.out
      have hc := putnumB A15 n15 l15 y15 w15 RR (x.client) (hO.out.client) (by omega)
      clear hle hrl
      obtain ⟨y16, ey⟩ : ∃ y, y15 ++ putN (x.client) = y := ⟨_, rfl⟩
      rw [ey] at hc
      have LL : Hid (y16.length ≤ 45080443355388) := Lh (by have h1 := LL.out; have hadd := putN_len10 (n := x.client) (hO.out.client); rw [← ey, List.length_append]; omega)
      have Y16 := Lh ey
      clear ey
      refine hc.mono ?_
      rintro e w16 ⟨A16, l16, n16, rfl, RR, hb, le1, le2⟩
      have LE := Lh (And.intro le1 le2)
      clear le1 le2
      have BB := Lh (BB.out.below hb BB.out.lt)
      have KB := Lh (KB.out.trans (hb.mono KB.out.size))
      clear hb hc
      clear c21
      have c22 : w16.cell? ⟨w.heap.size, 22, none⟩ = some (.int .u64 (x.seq : Int)) := BB.out.cell 22
      go_wp2_with fail
      have hle := LL.out
      have hrl := reads_len RR.out
      have hc := putnumB A16 n16 l16 y16 w16 RR (x.seq) (hO.out.seq) (by omega)
      clear hle hrl
      obtain ⟨y17, ey⟩ : ∃ y, y16 ++ putN (x.seq) = y := ⟨_, rfl⟩
      rw [ey] at hc
      have LL : Hid (y17.length ≤ 45080443355398) := Lh (by have h1 := LL.out; have hadd := putN_len10 (n := x.seq) (hO.out.seq); rw [← ey, List.length_append]; omega)
      have Y17 := Lh ey
      clear ey
      refine hc.mono ?_
      rintro e w17 ⟨A17, l17, n17, rfl, RR, hb, le1, le2⟩
      have LE := Lh (And.intro le1 le2)
      clear le1 le2
      have BB := Lh (BB.out.below hb BB.out.lt)
      have KB := Lh (KB.out.trans (hb.mono KB.out.size))
      clear hb hc
      clear c22
      have c23 : w17.cell? ⟨w.heap.size, 23, none⟩ = some (.int .i64 x.op) := BB.out.cell 23
      go_wp2_with fail
      have hle := LL.out
      have hrl := reads_len RR.out
      have hc := putintB A17 n17 l17 y17 w17 RR (x.op) (hO.out.op).1 (hO.out.op).2 (by omega)
      clear hle hrl
      obtain ⟨y18, ey⟩ : ∃ y, y17 ++ putN (zz (x.op)) = y := ⟨_, rfl⟩
      rw [ey] at hc
      have LL : Hid (y18.length ≤ 45080443355408) := Lh (by have h1 := LL.out; have hadd := (show (putN (zz (x.op))).length ≤ 10 from pInt_len (x := x.op) (hO.out.op)); rw [← ey, List.length_append]; omega)
      have Y18 := Lh ey
      clear ey
      refine hc.mono ?_
      rintro e w18 ⟨A18, l18, n18, rfl, RR, hb, le1, le2⟩
      have LE := Lh (And.intro le1 le2)
      clear le1 le2
      have BB := Lh (BB.out.below hb BB.out.lt)
      have KB := Lh (KB.out.trans (hb.mono KB.out.size))
      clear hb hc
      clear c23
      have c24 : w18.cell? ⟨w.heap.size, 24, none⟩ = some (.string (strOf x.key)) := BB.out.cell 24
      have kc := Lib.run_convert_string_bytes (P := Tryz.prog) w18 9 33 5 (strOf x.key) Tryz.underlying9 Tryz.underlying33 Tryz.underlying5
      have hbx := octs_bel w18 5 (strOf x.key)
      have hrx := octs_reads w18 5 (strOf x.key)
      rw [octs_strOf x.key hO.out.key.1] at hrx
      have szx : (Lib.bytesWorld w18 5 (strOf x.key)).heap.size = w18.heap.size + 1 := Lib.bytesWorld_size w18 5 (strOf x.key)
      obtain ⟨gc, hgc⟩ : ∃ gc, grownCap w18 (strOf x.key).size 0 5 = gc := ⟨_, rfl⟩
      rw [hgc] at kc
      rw [strOf_size] at kc hrx
      obtain ⟨wx, ewx⟩ : ∃ wx, Lib.bytesWorld w18 5 (strOf x.key) = wx := ⟨_, rfl⟩
      rw [ewx] at kc hbx hrx szx
      have RX : Hid (Reads wx wx.heap.size 1 (some ⟨w18.heap.size, 0, none⟩) x.key.length (x.key.map bv)) := Lh (hrx.more (by omega))
      clear hrx szx ewx hgc
      have RR := Lh (RR.out.later hbx)
      have BB := Lh (BB.out.below hbx BB.out.lt)
      have KB := Lh (KB.out.trans (hbx.mono KB.out.size))
      clear hbx
      go_wp2_with fail
      clear kc
      have hle := LL.out
      have hrl := reads_len RR.out
      have hc := fun (c9 : Nat) => putbytesB A18 n18 l18 y18 wx RR _ c9 x.key.length x.key RX (by have := hO.out.key.2; omega)
      clear hle hrl
      obtain ⟨y19, ey⟩ : ∃ y, y18 ++ (putN x.key.length ++ x.key) = y := ⟨_, rfl⟩
      rw [ey] at hc
      have LL : Hid (y19.length ≤ 45080444403994) := Lh (by have h1 := LL.out; have hadd := (show (putN x.key.length ++ x.key).length ≤ 1048586 from pText_len hO.out.key); rw [← ey, List.length_append]; omega)
      have Y19 := Lh ey
      clear ey
      refine (hc _).mono ?_
      rintro e w19 ⟨A19, l19, n19, rfl, RR, hb, le1, le2⟩
      have LE := Lh (And.intro le1 le2)
      clear le1 le2
      have BB := Lh (BB.out.below hb BB.out.lt)
      have KB := Lh (KB.out.trans (hb.mono KB.out.size))
      clear hb hc
      clear RX
      clear c24
      have c25 : w19.cell? ⟨w.heap.size, 25, none⟩ = some (.int .i64 x.code) := BB.out.cell 25
      go_wp2_with fail
      have hle := LL.out
      have hrl := reads_len RR.out
      have hc := putintB A19 n19 l19 y19 w19 RR (x.code) (hO.out.code).1 (hO.out.code).2 (by omega)
      clear hle hrl
      obtain ⟨y20, ey⟩ : ∃ y, y19 ++ putN (zz (x.code)) = y := ⟨_, rfl⟩
      rw [ey] at hc
      have LL : Hid (y20.length ≤ 45080444404004) := Lh (by have h1 := LL.out; have hadd := (show (putN (zz (x.code))).length ≤ 10 from pInt_len (x := x.code) (hO.out.code)); rw [← ey, List.length_append]; omega)
      have Y20 := Lh ey
      clear ey
      refine hc.mono ?_
      rintro e w20 ⟨A20, l20, n20, rfl, RR, hb, le1, le2⟩
      have LE := Lh (And.intro le1 le2)
      clear le1 le2
      have BB := Lh (BB.out.below hb BB.out.lt)
      have KB := Lh (KB.out.trans (hb.mono KB.out.size))
      clear hb hc
      clear c25
      have c26 : w20.cell? ⟨w.heap.size, 26, none⟩ = some (.slice An x.names.length cn) := BB.out.cell 26
      have heU : IntKind.u64.wrap (x.names.length : Int) = (x.names.length : Int) := by have := hO.out.names.2; rw [IntKind.wrap_u64]; omega
      go_wp2_with fail
      have hle := LL.out
      have hrl := reads_len RR.out
      have hc := putnumB A20 n20 l20 y20 w20 RR (x.names.length) (by have := hO.out.names.2; omega) (by omega)
      clear hle hrl
      obtain ⟨y21, ey⟩ : ∃ y, y20 ++ putN (x.names.length) = y := ⟨_, rfl⟩
      rw [ey] at hc
      have LL : Hid (y21.length ≤ 45080444404014) := Lh (by have h1 := LL.out; have hadd := putN_len10 (n := x.names.length) (by have := hO.out.names.2; omega); rw [← ey, List.length_append]; omega)
      have Y21 := Lh ey
      clear ey
      refine hc.mono ?_
      rintro e w21 ⟨A21, l21, n21, rfl, RR, hb, le1, le2⟩
      have LE := Lh (And.intro le1 le2)
      clear le1 le2
      have BB := Lh (BB.out.below hb BB.out.lt)
      have KB := Lh (KB.out.trans (hb.mono KB.out.size))
      clear hb hc
      clear heU
      clear c26
      have c26 : w21.cell? ⟨w.heap.size, 26, none⟩ = some (.slice An x.names.length cn) := BB.out.cell 26
      go_wp2_with fail
      go_loopw [3, 106] (fun vb vi wr => ∃ (k : Nat) (B : Option Addr) (bl bc : Nat), k ≤ x.names.length ∧ vi = .int .i64 k ∧ vb = .slice B bl bc ∧ Hid (Reads wr wr.heap.size 1 B bl ((y21 ++ nmB (x.names.take k)).map bv) ∧ bl ≤ bc ∧ bc ≤ maxLen) ∧ Hid (Below w21.heap.size w21 wr)) (fun _ vi _ => x.names.length - (intOf vi).toNat)
      case atStart => exact ⟨0, _, _, _, Nat.zero_le _, rfl, rfl, Lh ⟨by have h := RR.out; rw [List.take_zero, show nmB [] = [] from rfl, List.append_nil]; exact h, LE.out⟩, Lh (Below.refl _ _)⟩
      case round =>
        obtain ⟨k, B, bl, bc, hk, rfl, rfl, hB, hW⟩ := hrel
        by_cases hlt : k < x.names.length
        · as_aux_lemma =>
            have dk : decide (k < x.names.length) = true := decide_eq_true hlt
            have hel := hO.out.names.2
            have KW := Lh (KB.out.trans (hW.out.mono KB.out.size))
            obtain ⟨ad, hA, hadb, hcl⟩ := (HN.out.later KW.out).2 (by omega)
            have htk := nmB_take hlt
            have hts := hO.out.names.1 _ (List.getElem_mem hlt)
            have hcell := hcl k (stv x.names[k]) (by rw [List.getElem?_map, List.getElem?_eq_getElem hlt]; rfl)
            obtain ⟨s, hs⟩ : ∃ s, x.names[k] = s := ⟨_, rfl⟩
            rw [hs] at htk hts hcell
            have HTK := Lh htk
            have HTS := Lh hts
            unfold stv at hcell
            have hlen : bl + s.length ≤ 140737488351000 := by
              have h1 := reads_len hB.out.1; have h2 := LL.out
              have h3 := nmB_len (ns := x.names.take k) (fun m hm => hO.out.names.1 m (List.mem_of_mem_take hm))
              rw [List.length_take, Nat.min_eq_left (by omega)] at h3
              rw [List.length_append] at h1
              have h4 : k * 1048586 ≤ 1048576 * 1048586 := Nat.mul_le_mul_right _ (by omega)
              have h5 := hts.2
              omega
            have HLEN := Lh hlen
            subst hA
            clear hs htk hts hcl hadb hlen
            have kc := Lib.run_convert_string_bytes (P := Tryz.prog) wr 9 33 5 (strOf s) Tryz.underlying9 Tryz.underlying33 Tryz.underlying5
            have hbx := octs_bel wr 5 (strOf s)
            have hrx := octs_reads wr 5 (strOf s)
            rw [octs_strOf s HTS.out.1] at hrx
            have szx : (Lib.bytesWorld wr 5 (strOf s)).heap.size = wr.heap.size + 1 := Lib.bytesWorld_size wr 5 (strOf s)
            obtain ⟨gc, hgc⟩ : ∃ gc, grownCap wr (strOf s).size 0 5 = gc := ⟨_, rfl⟩
            rw [hgc] at kc
            rw [strOf_size] at kc hrx
            obtain ⟨wx2, ewx⟩ : ∃ wx, Lib.bytesWorld wr 5 (strOf s) = wx := ⟨_, rfl⟩
            rw [ewx] at kc hbx hrx szx
            have RX : Hid (Reads wx2 wx2.heap.size 1 (some ⟨wr.heap.size, 0, none⟩) s.length (s.map bv)) := Lh (hrx.more (by omega))
            clear hrx szx ewx hgc
            have HSX := Lh hbx
            clear hbx
            go_wp2_with (go_at_call 38; refine (putbytesB B bc bl (y21 ++ nmB (x.names.take k)) wx2 (Lh (hB.out.1.later HSX.out)) _ _ s.length s RX HLEN.out).mono ?_; rintro e wd ⟨B2, l2, b2c, rfl, r2, hb2, u1, u2⟩; have HR2 := r2; have HU := Lh (And.intro u1 u2); have HS2 := Lh (HSX.out.trans (hb2.mono HSX.out.size)); clear r2 hb2 u1 u2)
            refine ⟨⟨k + 1, B2, l2, b2c, by omega, by go_num, rfl, Lh ⟨?_, HU.out⟩, Lh (hW.out.trans (HS2.out.mono hW.out.size))⟩, by simp [intOf]; omega⟩
            rw [HTK.out, ← List.append_assoc]
            exact HR2.out
        · obtain rfl : k = x.names.length := by omega
          rw [List.take_length] at hB
          go_wp2_with fail
          go_ret
          have hfin : pMsg x = y21 ++ nmB x.names := by
            rw [← Y21.out]
            rw [← Y20.out]
            rw [← Y19.out]
            rw [← Y18.out]
            rw [← Y17.out]
            rw [← Y16.out]
            rw [← Y15.out]
            rw [← Y14.out]
            rw [← Y13.out]
            rw [← Y12.out]
            rw [← Y11.out]
            rw [← Y10.out]
            rw [← Y9.out]
            rw [← Y8.out]
            rw [← Y7.out]
            rw [← Y6.out]
            rw [← Y5.out]
            rw [← Y4.out]
            rw [← Y3.out]
            rw [← Y2.out]
            rw [← Y1.out]
            unfold pMsg pList nmB
            rw [HEQ.out, List.length_map, List.flatMap_map]
            have hf1 := w_flag x.okf
            have hf2 := w_flag x.force
            simp only [pText, pInt, emB, List.append_assoc, List.nil_append, hf1, hf2]
          refine ⟨_, _, _, rfl, ?_, KB.out.trans (hW.out.mono KB.out.size), hB.out.2.1, hB.out.2.2⟩
          show Hid (Reads _ _ 1 _ _ ((pMsg x).map bv))
          rw [hfin]
          exact Lh hB.out.1
end Go.Proofs.YtijdbdenmcjmmaaGreatDoor
end
