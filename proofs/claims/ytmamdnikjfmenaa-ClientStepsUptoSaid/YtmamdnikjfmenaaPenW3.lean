/-
  THE REFERENCE'S WRITER: messages without entries, nodes, names; their bytes; whether two are the same.
-/
import Derived.Test.YtmamdnikjfmenaaPenW2
namespace Go.Proofs.Ytmamdnikjfmenaa
open Go.RowKit OctMath
set_option linter.unusedVariables false
structure Mg where
  kind : Int
  fro : Int
  to : Int
  idx : Int
  kk : Int
  nn : Int
  sz : Int
  op : Int
  code : Int
  term : Nat
  index : Nat
  logt : Nat
  commit : Nat
  ctx : Nat
  ver : Nat
  ep : Nat
  client : Nat
  seq : Nat
  sm : Nat
  ok : Bool
  force : Bool
  key : ByteArray
  data : List Nat
/-- Its cells. -/
def Mg.cs (M : Mg) (m : Nat) (D : Option Addr) (dc : Nat) : Array Value :=
  #[.int .i64 M.kind, .int .i64 M.fro, .int .i64 M.to, .int .u64 M.term, .int .u64 M.index, .int .u64 M.logt, .int .u64 M.commit, .int .u64 M.ctx, .bool M.ok, .bool M.force, .slice none 0 0, .slice none 0 0, .slice none 0 0, .int .u64 M.ver, .int .i64 M.idx, .int .u64 M.ep, .int .i64 M.kk, .int .i64 M.nn, .int .i64 M.sz, .int .u32 M.sm, .slice D m dc, .int .u64 M.client, .int .u64 M.seq, .int .i64 M.op, .string M.key, .int .i64 M.code, .slice none 0 0]
structure Mg.Ok (M : Mg) : Prop where
  kind1 : -9223372036854775808 ≤ M.kind
  kind2 : M.kind ≤ 9223372036854775807
  fro1 : -9223372036854775808 ≤ M.fro
  fro2 : M.fro ≤ 9223372036854775807
  to1 : -9223372036854775808 ≤ M.to
  to2 : M.to ≤ 9223372036854775807
  idx1 : -9223372036854775808 ≤ M.idx
  idx2 : M.idx ≤ 9223372036854775807
  kk1 : -9223372036854775808 ≤ M.kk
  kk2 : M.kk ≤ 9223372036854775807
  nn1 : -9223372036854775808 ≤ M.nn
  nn2 : M.nn ≤ 9223372036854775807
  sz1 : -9223372036854775808 ≤ M.sz
  sz2 : M.sz ≤ 9223372036854775807
  op1 : -9223372036854775808 ≤ M.op
  op2 : M.op ≤ 9223372036854775807
  code1 : -9223372036854775808 ≤ M.code
  code2 : M.code ≤ 9223372036854775807
  term1 : M.term < 18446744073709551616
  index1 : M.index < 18446744073709551616
  logt1 : M.logt < 18446744073709551616
  commit1 : M.commit < 18446744073709551616
  ctx1 : M.ctx < 18446744073709551616
  ver1 : M.ver < 18446744073709551616
  ep1 : M.ep < 18446744073709551616
  client1 : M.client < 18446744073709551616
  seq1 : M.seq < 18446744073709551616
  sm1 : M.sm < 4294967296
  key1 : M.key.size ≤ 10000000000000
  data1 : M.data.length ≤ 10000000000000
/-- What it is as bytes. -/
def Mg.bytes (M : Mg) : List Nat :=
  putN (zz M.kind) ++ (putN (zz M.fro) ++ (putN (zz M.to) ++ (putN M.term ++ (putN M.index ++ (putN M.logt ++ (putN M.commit ++ (putN M.ctx ++ ([M.ok.toNat] ++ ([M.force.toNat] ++ (putN 0 ++ (putN 0 ++ (putN 0 ++ (headB M.ver M.idx M.ep M.kk M.nn M.sz M.sm ++ (putN M.data.length ++ (M.data ++ (putN M.client ++ (putN M.seq ++ (putN (zz M.op) ++ (putN M.key.size ++ (octs M.key ++ (putN (zz M.code) ++ putN 0)))))))))))))))))))))
theorem Try.size_msg : (Try.prog.info? 38).map (·.size) = some 27 := by kernel_rfl
set_option maxRecDepth 100000 in
set_option maxHeartbeats 4000000 in
theorem pen_fields (H : Nat → Prop) (g : Nat) (xs : List Nat) (M : Mg) (m : Nat) (D : Option Addr) (dc : Nat) (w : World) (hp : Hid (Pen H g xs w)) (hS : Hid (Safe H g w)) (hM : M.Ok) (hm : M.data.length = m)
    (HE : Hid (Reads w w.heap.size 1 D m (M.data.map bv))) (HD : Hid (0 < m → ∀ ad, D = some ad → H ad.block)) (hl : xs.length ≤ 10000000000000) :
    Calls Try.prog 43 #[.pointer (some ⟨g, 0, none⟩), .agg (M.cs m D dc)] w (RetPen H g (xs ++ M.bytes) (.agg (M.cs m D dc)) w) := by
  have HM := Lib.hid hM
  have hmd : m ≤ 10000000000000 := by rw [← hm]; exact hM.data1
  have HML := Lib.hid hm
  have hx := Lib.hid hl
  have hmd' := Lib.hid hmd
  clear hm hl hmd
  unfold Mg.cs
  have S0 := Lib.hid (Wr.start hp.out hS.out #[.int .i64 M.kind, .int .i64 M.fro, .int .i64 M.to, .int .u64 M.term, .int .u64 M.index, .int .u64 M.logt, .int .u64 M.commit, .int .u64 M.ctx, .bool M.ok, .bool M.force, .slice none 0 0, .slice none 0 0, .slice none 0 0, .int .u64 M.ver, .int .i64 M.idx, .int .u64 M.ep, .int .i64 M.kk, .int .i64 M.nn, .int .i64 M.sz, .int .u32 M.sm, .slice D m dc, .int .u64 M.client, .int .u64 M.seq, .int .i64 M.op, .string M.key, .int .i64 M.code, .slice none 0 0] #[.int .i64 0, .int .i64 0, .int .i64 0, .int .u64 0, .int .u64 0, .int .u64 0, .int .u64 0, .int .u64 0, .bool false, .bool false, .slice none 0 0, .slice none 0 0, .slice none 0 0, .int .u64 0, .int .i64 0, .int .u64 0, .int .i64 0, .int .i64 0, .int .i64 0, .int .u32 0, .slice none 0 0, .int .u64 0, .int .u64 0, .int .i64 0, .string ⟨#[]⟩, .int .i64 0, .slice none 0 0] 38)
  have tk1 : True := trivial
  have tk2 : True := trivial
  have tk3 : True := trivial
  have tk4 : True := trivial
  have tk5 : True := trivial
  have tk6 : True := trivial
  have tk7 : True := trivial
  have tk8 : True := trivial
  have tk9 : True := trivial
  have tk10 : True := trivial
  have tk11 : True := trivial
  have tk12 : True := trivial
  have tk13 : True := trivial
  have tk14 : True := trivial
  have tk15 : True := trivial
  have tk16 : True := trivial
  have tk17 : True := trivial
  have tk18 : True := trivial
  have tk19 : True := trivial
  have tk20 : True := trivial
  have z0 : ((w.alloc (.cells #[.int .i64 M.kind, .int .i64 M.fro, .int .i64 M.to, .int .u64 M.term, .int .u64 M.index, .int .u64 M.logt, .int .u64 M.commit, .int .u64 M.ctx, .bool M.ok, .bool M.force, .slice none 0 0, .slice none 0 0, .slice none 0 0, .int .u64 M.ver, .int .i64 M.idx, .int .u64 M.ep, .int .i64 M.kk, .int .i64 M.nn, .int .i64 M.sz, .int .u32 M.sm, .slice D m dc, .int .u64 M.client, .int .u64 M.seq, .int .i64 M.op, .string M.key, .int .i64 M.code, .slice none 0 0] 38)).alloc (.cells #[.int .i64 0, .int .i64 0, .int .i64 0, .int .u64 0, .int .u64 0, .int .u64 0, .int .u64 0, .int .u64 0, .bool false, .bool false, .slice none 0 0, .slice none 0 0, .slice none 0 0, .int .u64 0, .int .i64 0, .int .u64 0, .int .i64 0, .int .i64 0, .int .i64 0, .int .u32 0, .slice none 0 0, .int .u64 0, .int .u64 0, .int .i64 0, .string ⟨#[]⟩, .int .i64 0, .slice none 0 0] 38)).cell? ⟨w.heap.size, 0, none⟩ = some (.int .i64 M.kind) := S0.out.blk.cell 0
  clear hM
  go_enter Try.func43, Try.ntmps43
  go_wp2_with (first
    | (go_at_call 46; have _t := tk1; refine (pen_int _ g _ M.kind _ (Lib.hid S0.out.pen) (Lib.hid S0.out.safe) HM.out.kind1 HM.out.kind2 (by (try simp only [List.length_append]); (try simp only [List.length_cons]); (try simp only [List.length_nil]); (try simp only [octs_len]); have := hx.out;  omega)).mono ?_; rintro e w1 hr; have S1 := S0.out.call hr; obtain ⟨rfl, -, -⟩ := hr; clear z0; have z0 : w1.cell? ⟨w.heap.size, 0, none⟩ = some (.int .i64 M.kind) := S1.blk.cell 0; have f0 : w1.frozen? ⟨w.heap.size, 0, none⟩ = false := S1.blk.frozen 0; have z1 : w1.cell? ⟨w.heap.size, 1, none⟩ = some (.int .i64 M.fro) := S1.blk.cell 1; have S1 := Lib.hid (Wr.set (i := 0) (u := .int .i64 M.kind) S1 rfl); clear tk1 _t)
    | (go_at_call 46; have _t := tk2; refine (pen_int _ g _ M.fro _ (Lib.hid S1.out.pen) (Lib.hid S1.out.safe) HM.out.fro1 HM.out.fro2 (by (try simp only [List.length_append]); (try simp only [List.length_cons]); (try simp only [List.length_nil]); (try simp only [octs_len]); have := hx.out; have := putN_len10 (zz_lt HM.out.kind1 HM.out.kind2); omega)).mono ?_; rintro e w2 hr; have S2 := S1.out.call hr; obtain ⟨rfl, -, -⟩ := hr; clear z1; have z1 : w2.cell? ⟨w.heap.size, 1, none⟩ = some (.int .i64 M.fro) := S2.blk.cell 1; have f1 : w2.frozen? ⟨w.heap.size, 1, none⟩ = false := S2.blk.frozen 1; have z2 : w2.cell? ⟨w.heap.size, 2, none⟩ = some (.int .i64 M.to) := S2.blk.cell 2; have S2 := Lib.hid (Wr.set (i := 1) (u := .int .i64 M.fro) S2 rfl); clear tk2 _t)
    | (go_at_call 46; have _t := tk3; refine (pen_int _ g _ M.to _ (Lib.hid S2.out.pen) (Lib.hid S2.out.safe) HM.out.to1 HM.out.to2 (by (try simp only [List.length_append]); (try simp only [List.length_cons]); (try simp only [List.length_nil]); (try simp only [octs_len]); have := hx.out; have := putN_len10 (zz_lt HM.out.kind1 HM.out.kind2); have := putN_len10 (zz_lt HM.out.fro1 HM.out.fro2); omega)).mono ?_; rintro e w3 hr; have S3 := S2.out.call hr; obtain ⟨rfl, -, -⟩ := hr; clear z2; have z2 : w3.cell? ⟨w.heap.size, 2, none⟩ = some (.int .i64 M.to) := S3.blk.cell 2; have f2 : w3.frozen? ⟨w.heap.size, 2, none⟩ = false := S3.blk.frozen 2; have z3 : w3.cell? ⟨w.heap.size, 3, none⟩ = some (.int .u64 M.term) := S3.blk.cell 3; have S3 := Lib.hid (Wr.set (i := 2) (u := .int .i64 M.to) S3 rfl); clear tk3 _t)
    | (go_at_call 47; have _t := tk4; refine (pen_u64 _ g _ M.term _ (Lib.hid S3.out.pen) (Lib.hid S3.out.safe) HM.out.term1 (by (try simp only [List.length_append]); (try simp only [List.length_cons]); (try simp only [List.length_nil]); (try simp only [octs_len]); have := hx.out; have := putN_len10 (zz_lt HM.out.kind1 HM.out.kind2); have := putN_len10 (zz_lt HM.out.fro1 HM.out.fro2); have := putN_len10 (zz_lt HM.out.to1 HM.out.to2); omega)).mono ?_; rintro e w4 hr; have S4 := S3.out.call hr; obtain ⟨rfl, -, -⟩ := hr; clear z3; have z3 : w4.cell? ⟨w.heap.size, 3, none⟩ = some (.int .u64 M.term) := S4.blk.cell 3; have f3 : w4.frozen? ⟨w.heap.size, 3, none⟩ = false := S4.blk.frozen 3; have z4 : w4.cell? ⟨w.heap.size, 4, none⟩ = some (.int .u64 M.index) := S4.blk.cell 4; have S4 := Lib.hid (Wr.set (i := 3) (u := .int .u64 M.term) S4 rfl); clear tk4 _t)
    | (go_at_call 47; have _t := tk5; refine (pen_u64 _ g _ M.index _ (Lib.hid S4.out.pen) (Lib.hid S4.out.safe) HM.out.index1 (by (try simp only [List.length_append]); (try simp only [List.length_cons]); (try simp only [List.length_nil]); (try simp only [octs_len]); have := hx.out; have := putN_len10 (zz_lt HM.out.kind1 HM.out.kind2); have := putN_len10 (zz_lt HM.out.fro1 HM.out.fro2); have := putN_len10 (zz_lt HM.out.to1 HM.out.to2); have := putN_len10 HM.out.term1; omega)).mono ?_; rintro e w5 hr; have S5 := S4.out.call hr; obtain ⟨rfl, -, -⟩ := hr; clear z4; have z4 : w5.cell? ⟨w.heap.size, 4, none⟩ = some (.int .u64 M.index) := S5.blk.cell 4; have f4 : w5.frozen? ⟨w.heap.size, 4, none⟩ = false := S5.blk.frozen 4; have z5 : w5.cell? ⟨w.heap.size, 5, none⟩ = some (.int .u64 M.logt) := S5.blk.cell 5; have S5 := Lib.hid (Wr.set (i := 4) (u := .int .u64 M.index) S5 rfl); clear tk5 _t)
    | (go_at_call 47; have _t := tk6; refine (pen_u64 _ g _ M.logt _ (Lib.hid S5.out.pen) (Lib.hid S5.out.safe) HM.out.logt1 (by (try simp only [List.length_append]); (try simp only [List.length_cons]); (try simp only [List.length_nil]); (try simp only [octs_len]); have := hx.out; have := putN_len10 (zz_lt HM.out.kind1 HM.out.kind2); have := putN_len10 (zz_lt HM.out.fro1 HM.out.fro2); have := putN_len10 (zz_lt HM.out.to1 HM.out.to2); have := putN_len10 HM.out.term1; have := putN_len10 HM.out.index1; omega)).mono ?_; rintro e w6 hr; have S6 := S5.out.call hr; obtain ⟨rfl, -, -⟩ := hr; clear z5; have z5 : w6.cell? ⟨w.heap.size, 5, none⟩ = some (.int .u64 M.logt) := S6.blk.cell 5; have f5 : w6.frozen? ⟨w.heap.size, 5, none⟩ = false := S6.blk.frozen 5; have z6 : w6.cell? ⟨w.heap.size, 6, none⟩ = some (.int .u64 M.commit) := S6.blk.cell 6; have S6 := Lib.hid (Wr.set (i := 5) (u := .int .u64 M.logt) S6 rfl); clear tk6 _t)
    | (go_at_call 47; have _t := tk7; refine (pen_u64 _ g _ M.commit _ (Lib.hid S6.out.pen) (Lib.hid S6.out.safe) HM.out.commit1 (by (try simp only [List.length_append]); (try simp only [List.length_cons]); (try simp only [List.length_nil]); (try simp only [octs_len]); have := hx.out; have := putN_len10 (zz_lt HM.out.kind1 HM.out.kind2); have := putN_len10 (zz_lt HM.out.fro1 HM.out.fro2); have := putN_len10 (zz_lt HM.out.to1 HM.out.to2); have := putN_len10 HM.out.term1; have := putN_len10 HM.out.index1; have := putN_len10 HM.out.logt1; omega)).mono ?_; rintro e w7 hr; have S7 := S6.out.call hr; obtain ⟨rfl, -, -⟩ := hr; clear z6; have z6 : w7.cell? ⟨w.heap.size, 6, none⟩ = some (.int .u64 M.commit) := S7.blk.cell 6; have f6 : w7.frozen? ⟨w.heap.size, 6, none⟩ = false := S7.blk.frozen 6; have z7 : w7.cell? ⟨w.heap.size, 7, none⟩ = some (.int .u64 M.ctx) := S7.blk.cell 7; have S7 := Lib.hid (Wr.set (i := 6) (u := .int .u64 M.commit) S7 rfl); clear tk7 _t)
    | (go_at_call 47; have _t := tk8; refine (pen_u64 _ g _ M.ctx _ (Lib.hid S7.out.pen) (Lib.hid S7.out.safe) HM.out.ctx1 (by (try simp only [List.length_append]); (try simp only [List.length_cons]); (try simp only [List.length_nil]); (try simp only [octs_len]); have := hx.out; have := putN_len10 (zz_lt HM.out.kind1 HM.out.kind2); have := putN_len10 (zz_lt HM.out.fro1 HM.out.fro2); have := putN_len10 (zz_lt HM.out.to1 HM.out.to2); have := putN_len10 HM.out.term1; have := putN_len10 HM.out.index1; have := putN_len10 HM.out.logt1; have := putN_len10 HM.out.commit1; omega)).mono ?_; rintro e w8 hr; have S8 := S7.out.call hr; obtain ⟨rfl, -, -⟩ := hr; clear z7; have z7 : w8.cell? ⟨w.heap.size, 7, none⟩ = some (.int .u64 M.ctx) := S8.blk.cell 7; have f7 : w8.frozen? ⟨w.heap.size, 7, none⟩ = false := S8.blk.frozen 7; have z8 : w8.cell? ⟨w.heap.size, 8, none⟩ = some (.bool M.ok) := S8.blk.cell 8; have S8 := Lib.hid (Wr.set (i := 7) (u := .int .u64 M.ctx) S8 rfl); clear tk8 _t)
    | (go_at_call 48; have _t := tk9; refine (pen_flag _ g _ M.ok _ (Lib.hid S8.out.pen) (Lib.hid S8.out.safe) (by (try simp only [List.length_append]); (try simp only [List.length_cons]); (try simp only [List.length_nil]); (try simp only [octs_len]); have := hx.out; have := putN_len10 (zz_lt HM.out.kind1 HM.out.kind2); have := putN_len10 (zz_lt HM.out.fro1 HM.out.fro2); have := putN_len10 (zz_lt HM.out.to1 HM.out.to2); have := putN_len10 HM.out.term1; have := putN_len10 HM.out.index1; have := putN_len10 HM.out.logt1; have := putN_len10 HM.out.commit1; have := putN_len10 HM.out.ctx1; omega)).mono ?_; rintro e w9 hr; have S9 := S8.out.call hr; obtain ⟨rfl, -, -⟩ := hr; clear z8; have z8 : w9.cell? ⟨w.heap.size, 8, none⟩ = some (.bool M.ok) := S9.blk.cell 8; have f8 : w9.frozen? ⟨w.heap.size, 8, none⟩ = false := S9.blk.frozen 8; have z9 : w9.cell? ⟨w.heap.size, 9, none⟩ = some (.bool M.force) := S9.blk.cell 9; have S9 := Lib.hid (Wr.set (i := 8) (u := .bool M.ok) S9 rfl); clear tk9 _t)
    | (go_at_call 48; have _t := tk10; refine (pen_flag _ g _ M.force _ (Lib.hid S9.out.pen) (Lib.hid S9.out.safe) (by (try simp only [List.length_append]); (try simp only [List.length_cons]); (try simp only [List.length_nil]); (try simp only [octs_len]); have := hx.out; have := putN_len10 (zz_lt HM.out.kind1 HM.out.kind2); have := putN_len10 (zz_lt HM.out.fro1 HM.out.fro2); have := putN_len10 (zz_lt HM.out.to1 HM.out.to2); have := putN_len10 HM.out.term1; have := putN_len10 HM.out.index1; have := putN_len10 HM.out.logt1; have := putN_len10 HM.out.commit1; have := putN_len10 HM.out.ctx1; omega)).mono ?_; rintro e w10 hr; have S10 := S9.out.call hr; obtain ⟨rfl, -, -⟩ := hr; clear z9; have z9 : w10.cell? ⟨w.heap.size, 9, none⟩ = some (.bool M.force) := S10.blk.cell 9; have f9 : w10.frozen? ⟨w.heap.size, 9, none⟩ = false := S10.blk.frozen 9; have z10 : w10.cell? ⟨w.heap.size, 10, none⟩ = some (.slice none 0 0) := S10.blk.cell 10; have S10 := Lib.hid (Wr.set (i := 9) (u := .bool M.force) S10 rfl); clear tk10 _t)
    | (go_at_call 49; have _t := tk11; refine (pen_entries0 _ g _ _ (Lib.hid S10.out.pen) (Lib.hid S10.out.safe) (by (try simp only [List.length_append]); (try simp only [List.length_cons]); (try simp only [List.length_nil]); (try simp only [octs_len]); have := hx.out; have := putN_len10 (zz_lt HM.out.kind1 HM.out.kind2); have := putN_len10 (zz_lt HM.out.fro1 HM.out.fro2); have := putN_len10 (zz_lt HM.out.to1 HM.out.to2); have := putN_len10 HM.out.term1; have := putN_len10 HM.out.index1; have := putN_len10 HM.out.logt1; have := putN_len10 HM.out.commit1; have := putN_len10 HM.out.ctx1; omega)).mono ?_; rintro e w11 hr; have S11 := S10.out.call hr; obtain ⟨rfl, -, -⟩ := hr; clear z10; have z10 : w11.cell? ⟨w.heap.size, 10, none⟩ = some (.slice none 0 0) := S11.blk.cell 10; have f10 : w11.frozen? ⟨w.heap.size, 10, none⟩ = false := S11.blk.frozen 10; have z11 : w11.cell? ⟨w.heap.size, 11, none⟩ = some (.slice none 0 0) := S11.blk.cell 11; have z12 : w11.cell? ⟨w.heap.size, 12, none⟩ = some (.slice none 0 0) := S11.blk.cell 12; have S11 := Lib.hid (Wr.set (i := 10) (u := .slice none 0 0) S11 rfl); clear tk11 _t)
    | (go_at_call 50; have _t := tk12; refine (pen_conf0 _ g _ _ (Lib.hid S11.out.pen) (Lib.hid S11.out.safe) (by (try simp only [List.length_append]); (try simp only [List.length_cons]); (try simp only [List.length_nil]); (try simp only [octs_len]); have := hx.out; have := putN_len10 (zz_lt HM.out.kind1 HM.out.kind2); have := putN_len10 (zz_lt HM.out.fro1 HM.out.fro2); have := putN_len10 (zz_lt HM.out.to1 HM.out.to2); have := putN_len10 HM.out.term1; have := putN_len10 HM.out.index1; have := putN_len10 HM.out.logt1; have := putN_len10 HM.out.commit1; have := putN_len10 HM.out.ctx1; have := (putN_len10 (n := 0) (by have := hmd'.out; omega)); omega)).mono ?_; rintro e w12 hr; have S12 := S11.out.call hr; obtain ⟨rfl, -, -⟩ := hr; clear z11 z12; have z11 : w12.cell? ⟨w.heap.size, 11, none⟩ = some (.slice none 0 0) := S12.blk.cell 11; have f11 : w12.frozen? ⟨w.heap.size, 11, none⟩ = false := S12.blk.frozen 11; have z12 : w12.cell? ⟨w.heap.size, 12, none⟩ = some (.slice none 0 0) := S12.blk.cell 12; have f12 : w12.frozen? ⟨w.heap.size, 12, none⟩ = false := S12.blk.frozen 12; have z13 : w12.cell? ⟨w.heap.size, 13, none⟩ = some (.int .u64 M.ver) := S12.blk.cell 13; have z14 : w12.cell? ⟨w.heap.size, 14, none⟩ = some (.int .i64 M.idx) := S12.blk.cell 14; have z15 : w12.cell? ⟨w.heap.size, 15, none⟩ = some (.int .u64 M.ep) := S12.blk.cell 15; have z16 : w12.cell? ⟨w.heap.size, 16, none⟩ = some (.int .i64 M.kk) := S12.blk.cell 16; have z17 : w12.cell? ⟨w.heap.size, 17, none⟩ = some (.int .i64 M.nn) := S12.blk.cell 17; have z18 : w12.cell? ⟨w.heap.size, 18, none⟩ = some (.int .i64 M.sz) := S12.blk.cell 18; have z19 : w12.cell? ⟨w.heap.size, 19, none⟩ = some (.int .u32 M.sm) := S12.blk.cell 19; have S12 := Lib.hid (Wr.set (i := 12) (u := .slice none 0 0) (Wr.set (i := 11) (u := .slice none 0 0) S12 rfl) rfl); clear tk12 _t)
    | (go_at_call 51; have _t := tk13; refine (pen_header _ g _ M.ver M.idx M.ep M.kk M.nn M.sz M.sm _ (Lib.hid S12.out.pen) (Lib.hid S12.out.safe) HM.out.ver1 HM.out.idx1 HM.out.idx2 HM.out.ep1 HM.out.kk1 HM.out.kk2 HM.out.nn1 HM.out.nn2 HM.out.sz1 HM.out.sz2 HM.out.sm1 (by (try simp only [List.length_append]); (try simp only [List.length_cons]); (try simp only [List.length_nil]); (try simp only [octs_len]); have := hx.out; have := putN_len10 (zz_lt HM.out.kind1 HM.out.kind2); have := putN_len10 (zz_lt HM.out.fro1 HM.out.fro2); have := putN_len10 (zz_lt HM.out.to1 HM.out.to2); have := putN_len10 HM.out.term1; have := putN_len10 HM.out.index1; have := putN_len10 HM.out.logt1; have := putN_len10 HM.out.commit1; have := putN_len10 HM.out.ctx1; have := (putN_len10 (n := 0) (by have := hmd'.out; omega)); have := (putN_len10 (n := 0) (by have := hmd'.out; omega)); omega)).mono ?_; rintro e w13 hr; have S13 := S12.out.call hr; obtain ⟨rfl, -, -⟩ := hr; clear z13 z14 z15 z16 z17 z18 z19; have z13 : w13.cell? ⟨w.heap.size, 13, none⟩ = some (.int .u64 M.ver) := S13.blk.cell 13; have f13 : w13.frozen? ⟨w.heap.size, 13, none⟩ = false := S13.blk.frozen 13; have z14 : w13.cell? ⟨w.heap.size, 14, none⟩ = some (.int .i64 M.idx) := S13.blk.cell 14; have f14 : w13.frozen? ⟨w.heap.size, 14, none⟩ = false := S13.blk.frozen 14; have z15 : w13.cell? ⟨w.heap.size, 15, none⟩ = some (.int .u64 M.ep) := S13.blk.cell 15; have f15 : w13.frozen? ⟨w.heap.size, 15, none⟩ = false := S13.blk.frozen 15; have z16 : w13.cell? ⟨w.heap.size, 16, none⟩ = some (.int .i64 M.kk) := S13.blk.cell 16; have f16 : w13.frozen? ⟨w.heap.size, 16, none⟩ = false := S13.blk.frozen 16; have z17 : w13.cell? ⟨w.heap.size, 17, none⟩ = some (.int .i64 M.nn) := S13.blk.cell 17; have f17 : w13.frozen? ⟨w.heap.size, 17, none⟩ = false := S13.blk.frozen 17; have z18 : w13.cell? ⟨w.heap.size, 18, none⟩ = some (.int .i64 M.sz) := S13.blk.cell 18; have f18 : w13.frozen? ⟨w.heap.size, 18, none⟩ = false := S13.blk.frozen 18; have z19 : w13.cell? ⟨w.heap.size, 19, none⟩ = some (.int .u32 M.sm) := S13.blk.cell 19; have f19 : w13.frozen? ⟨w.heap.size, 19, none⟩ = false := S13.blk.frozen 19; have z20 : w13.cell? ⟨w.heap.size, 20, none⟩ = some (.slice D m dc) := S13.blk.cell 20; have S13 := Lib.hid (Wr.set (i := 19) (u := .int .u32 M.sm) (Wr.set (i := 18) (u := .int .i64 M.sz) (Wr.set (i := 17) (u := .int .i64 M.nn) (Wr.set (i := 16) (u := .int .i64 M.kk) (Wr.set (i := 15) (u := .int .u64 M.ep) (Wr.set (i := 14) (u := .int .i64 M.idx) (Wr.set (i := 13) (u := .int .u64 M.ver) S13 rfl) rfl) rfl) rfl) rfl) rfl) rfl); clear tk13 _t)
    | (go_at_call 52; have _t := tk14; refine (pen_bytes _ g _ D m dc M.data _ (Lib.hid S13.out.pen) (Lib.hid S13.out.safe) (Lib.hid (S13.out.keep.reads HE.out HD.out)) (by have := hmd'.out; omega) (by (try simp only [List.length_append]); (try simp only [List.length_cons]); (try simp only [List.length_nil]); (try simp only [octs_len]); have := hx.out; have := putN_len10 (zz_lt HM.out.kind1 HM.out.kind2); have := putN_len10 (zz_lt HM.out.fro1 HM.out.fro2); have := putN_len10 (zz_lt HM.out.to1 HM.out.to2); have := putN_len10 HM.out.term1; have := putN_len10 HM.out.index1; have := putN_len10 HM.out.logt1; have := putN_len10 HM.out.commit1; have := putN_len10 HM.out.ctx1; have := (putN_len10 (n := 0) (by have := hmd'.out; omega)); have := (putN_len10 (n := 0) (by have := hmd'.out; omega)); have := headB_len HM.out.ver1 HM.out.idx1 HM.out.idx2 HM.out.ep1 HM.out.kk1 HM.out.kk2 HM.out.nn1 HM.out.nn2 HM.out.sz1 HM.out.sz2 HM.out.sm1; omega)).mono ?_; rintro e w14 hr; have S14 := S13.out.call hr; obtain ⟨rfl, -, -⟩ := hr; clear z20; have z20 : w14.cell? ⟨w.heap.size, 20, none⟩ = some (.slice D m dc) := S14.blk.cell 20; have f20 : w14.frozen? ⟨w.heap.size, 20, none⟩ = false := S14.blk.frozen 20; have z21 : w14.cell? ⟨w.heap.size, 21, none⟩ = some (.int .u64 M.client) := S14.blk.cell 21; have S14 := Lib.hid (Wr.set (i := 20) (u := .slice D m dc) S14 rfl); clear tk14 _t)
    | (go_at_call 47; have _t := tk15; refine (pen_u64 _ g _ M.client _ (Lib.hid S14.out.pen) (Lib.hid S14.out.safe) HM.out.client1 (by (try simp only [List.length_append]); (try simp only [List.length_cons]); (try simp only [List.length_nil]); (try simp only [octs_len]); have := hx.out; have := putN_len10 (zz_lt HM.out.kind1 HM.out.kind2); have := putN_len10 (zz_lt HM.out.fro1 HM.out.fro2); have := putN_len10 (zz_lt HM.out.to1 HM.out.to2); have := putN_len10 HM.out.term1; have := putN_len10 HM.out.index1; have := putN_len10 HM.out.logt1; have := putN_len10 HM.out.commit1; have := putN_len10 HM.out.ctx1; have := (putN_len10 (n := 0) (by have := hmd'.out; omega)); have := (putN_len10 (n := 0) (by have := hmd'.out; omega)); have := headB_len HM.out.ver1 HM.out.idx1 HM.out.idx2 HM.out.ep1 HM.out.kk1 HM.out.kk2 HM.out.nn1 HM.out.nn2 HM.out.sz1 HM.out.sz2 HM.out.sm1; have := putN_len10 (n := m) (by have := hmd'.out; omega); have := hmd'.out; have := HML.out; omega)).mono ?_; rintro e w15 hr; have S15 := S14.out.call hr; obtain ⟨rfl, -, -⟩ := hr; clear z21; have z21 : w15.cell? ⟨w.heap.size, 21, none⟩ = some (.int .u64 M.client) := S15.blk.cell 21; have f21 : w15.frozen? ⟨w.heap.size, 21, none⟩ = false := S15.blk.frozen 21; have z22 : w15.cell? ⟨w.heap.size, 22, none⟩ = some (.int .u64 M.seq) := S15.blk.cell 22; have S15 := Lib.hid (Wr.set (i := 21) (u := .int .u64 M.client) S15 rfl); clear tk15 _t)
    | (go_at_call 47; have _t := tk16; refine (pen_u64 _ g _ M.seq _ (Lib.hid S15.out.pen) (Lib.hid S15.out.safe) HM.out.seq1 (by (try simp only [List.length_append]); (try simp only [List.length_cons]); (try simp only [List.length_nil]); (try simp only [octs_len]); have := hx.out; have := putN_len10 (zz_lt HM.out.kind1 HM.out.kind2); have := putN_len10 (zz_lt HM.out.fro1 HM.out.fro2); have := putN_len10 (zz_lt HM.out.to1 HM.out.to2); have := putN_len10 HM.out.term1; have := putN_len10 HM.out.index1; have := putN_len10 HM.out.logt1; have := putN_len10 HM.out.commit1; have := putN_len10 HM.out.ctx1; have := (putN_len10 (n := 0) (by have := hmd'.out; omega)); have := (putN_len10 (n := 0) (by have := hmd'.out; omega)); have := headB_len HM.out.ver1 HM.out.idx1 HM.out.idx2 HM.out.ep1 HM.out.kk1 HM.out.kk2 HM.out.nn1 HM.out.nn2 HM.out.sz1 HM.out.sz2 HM.out.sm1; have := putN_len10 (n := m) (by have := hmd'.out; omega); have := hmd'.out; have := HML.out; have := putN_len10 HM.out.client1; omega)).mono ?_; rintro e w16 hr; have S16 := S15.out.call hr; obtain ⟨rfl, -, -⟩ := hr; clear z22; have z22 : w16.cell? ⟨w.heap.size, 22, none⟩ = some (.int .u64 M.seq) := S16.blk.cell 22; have f22 : w16.frozen? ⟨w.heap.size, 22, none⟩ = false := S16.blk.frozen 22; have z23 : w16.cell? ⟨w.heap.size, 23, none⟩ = some (.int .i64 M.op) := S16.blk.cell 23; have S16 := Lib.hid (Wr.set (i := 22) (u := .int .u64 M.seq) S16 rfl); clear tk16 _t)
    | (go_at_call 46; have _t := tk17; refine (pen_int _ g _ M.op _ (Lib.hid S16.out.pen) (Lib.hid S16.out.safe) HM.out.op1 HM.out.op2 (by (try simp only [List.length_append]); (try simp only [List.length_cons]); (try simp only [List.length_nil]); (try simp only [octs_len]); have := hx.out; have := putN_len10 (zz_lt HM.out.kind1 HM.out.kind2); have := putN_len10 (zz_lt HM.out.fro1 HM.out.fro2); have := putN_len10 (zz_lt HM.out.to1 HM.out.to2); have := putN_len10 HM.out.term1; have := putN_len10 HM.out.index1; have := putN_len10 HM.out.logt1; have := putN_len10 HM.out.commit1; have := putN_len10 HM.out.ctx1; have := (putN_len10 (n := 0) (by have := hmd'.out; omega)); have := (putN_len10 (n := 0) (by have := hmd'.out; omega)); have := headB_len HM.out.ver1 HM.out.idx1 HM.out.idx2 HM.out.ep1 HM.out.kk1 HM.out.kk2 HM.out.nn1 HM.out.nn2 HM.out.sz1 HM.out.sz2 HM.out.sm1; have := putN_len10 (n := m) (by have := hmd'.out; omega); have := hmd'.out; have := HML.out; have := putN_len10 HM.out.client1; have := putN_len10 HM.out.seq1; omega)).mono ?_; rintro e w17 hr; have S17 := S16.out.call hr; obtain ⟨rfl, -, -⟩ := hr; clear z23; have z23 : w17.cell? ⟨w.heap.size, 23, none⟩ = some (.int .i64 M.op) := S17.blk.cell 23; have f23 : w17.frozen? ⟨w.heap.size, 23, none⟩ = false := S17.blk.frozen 23; have z24 : w17.cell? ⟨w.heap.size, 24, none⟩ = some (.string M.key) := S17.blk.cell 24; have S17 := Lib.hid (Wr.set (i := 23) (u := .int .i64 M.op) S17 rfl); clear tk17 _t)
    | (go_at_call 53; have _t := tk18; refine (pen_text _ g _ M.key _ (Lib.hid S17.out.pen) (Lib.hid S17.out.safe) (by have := HM.out.key1; omega) (by (try simp only [List.length_append]); (try simp only [List.length_cons]); (try simp only [List.length_nil]); (try simp only [octs_len]); have := hx.out; have := putN_len10 (zz_lt HM.out.kind1 HM.out.kind2); have := putN_len10 (zz_lt HM.out.fro1 HM.out.fro2); have := putN_len10 (zz_lt HM.out.to1 HM.out.to2); have := putN_len10 HM.out.term1; have := putN_len10 HM.out.index1; have := putN_len10 HM.out.logt1; have := putN_len10 HM.out.commit1; have := putN_len10 HM.out.ctx1; have := (putN_len10 (n := 0) (by have := hmd'.out; omega)); have := (putN_len10 (n := 0) (by have := hmd'.out; omega)); have := headB_len HM.out.ver1 HM.out.idx1 HM.out.idx2 HM.out.ep1 HM.out.kk1 HM.out.kk2 HM.out.nn1 HM.out.nn2 HM.out.sz1 HM.out.sz2 HM.out.sm1; have := putN_len10 (n := m) (by have := hmd'.out; omega); have := hmd'.out; have := HML.out; have := putN_len10 HM.out.client1; have := putN_len10 HM.out.seq1; have := putN_len10 (zz_lt HM.out.op1 HM.out.op2); omega)).mono ?_; rintro e w18 hr; have S18 := S17.out.call hr; obtain ⟨rfl, -, -⟩ := hr; clear z24; have z24 : w18.cell? ⟨w.heap.size, 24, none⟩ = some (.string M.key) := S18.blk.cell 24; have f24 : w18.frozen? ⟨w.heap.size, 24, none⟩ = false := S18.blk.frozen 24; have z25 : w18.cell? ⟨w.heap.size, 25, none⟩ = some (.int .i64 M.code) := S18.blk.cell 25; have S18 := Lib.hid (Wr.set (i := 24) (u := .string M.key) S18 rfl); clear tk18 _t)
    | (go_at_call 46; have _t := tk19; refine (pen_int _ g _ M.code _ (Lib.hid S18.out.pen) (Lib.hid S18.out.safe) HM.out.code1 HM.out.code2 (by (try simp only [List.length_append]); (try simp only [List.length_cons]); (try simp only [List.length_nil]); (try simp only [octs_len]); have := hx.out; have := putN_len10 (zz_lt HM.out.kind1 HM.out.kind2); have := putN_len10 (zz_lt HM.out.fro1 HM.out.fro2); have := putN_len10 (zz_lt HM.out.to1 HM.out.to2); have := putN_len10 HM.out.term1; have := putN_len10 HM.out.index1; have := putN_len10 HM.out.logt1; have := putN_len10 HM.out.commit1; have := putN_len10 HM.out.ctx1; have := (putN_len10 (n := 0) (by have := hmd'.out; omega)); have := (putN_len10 (n := 0) (by have := hmd'.out; omega)); have := headB_len HM.out.ver1 HM.out.idx1 HM.out.idx2 HM.out.ep1 HM.out.kk1 HM.out.kk2 HM.out.nn1 HM.out.nn2 HM.out.sz1 HM.out.sz2 HM.out.sm1; have := putN_len10 (n := m) (by have := hmd'.out; omega); have := hmd'.out; have := HML.out; have := putN_len10 HM.out.client1; have := putN_len10 HM.out.seq1; have := putN_len10 (zz_lt HM.out.op1 HM.out.op2); have := putN_len10 (n := M.key.size) (by have := HM.out.key1; omega); have := HM.out.key1; omega)).mono ?_; rintro e w19 hr; have S19 := S18.out.call hr; obtain ⟨rfl, -, -⟩ := hr; clear z25; have z25 : w19.cell? ⟨w.heap.size, 25, none⟩ = some (.int .i64 M.code) := S19.blk.cell 25; have f25 : w19.frozen? ⟨w.heap.size, 25, none⟩ = false := S19.blk.frozen 25; have z26 : w19.cell? ⟨w.heap.size, 26, none⟩ = some (.slice none 0 0) := S19.blk.cell 26; have S19 := Lib.hid (Wr.set (i := 25) (u := .int .i64 M.code) S19 rfl); clear tk19 _t)
    | (go_at_call 54; have _t := tk20; refine (pen_len _ g _ 0 _ (Lib.hid S19.out.pen) (Lib.hid S19.out.safe) (by omega) (by (try simp only [List.length_append]); (try simp only [List.length_cons]); (try simp only [List.length_nil]); (try simp only [octs_len]); have := hx.out; have := putN_len10 (zz_lt HM.out.kind1 HM.out.kind2); have := putN_len10 (zz_lt HM.out.fro1 HM.out.fro2); have := putN_len10 (zz_lt HM.out.to1 HM.out.to2); have := putN_len10 HM.out.term1; have := putN_len10 HM.out.index1; have := putN_len10 HM.out.logt1; have := putN_len10 HM.out.commit1; have := putN_len10 HM.out.ctx1; have := (putN_len10 (n := 0) (by have := hmd'.out; omega)); have := (putN_len10 (n := 0) (by have := hmd'.out; omega)); have := headB_len HM.out.ver1 HM.out.idx1 HM.out.idx2 HM.out.ep1 HM.out.kk1 HM.out.kk2 HM.out.nn1 HM.out.nn2 HM.out.sz1 HM.out.sz2 HM.out.sm1; have := putN_len10 (n := m) (by have := hmd'.out; omega); have := hmd'.out; have := HML.out; have := putN_len10 HM.out.client1; have := putN_len10 HM.out.seq1; have := putN_len10 (zz_lt HM.out.op1 HM.out.op2); have := putN_len10 (n := M.key.size) (by have := HM.out.key1; omega); have := HM.out.key1; have := putN_len10 (zz_lt HM.out.code1 HM.out.code2); omega)).mono ?_; rintro e w20 hr; have S20 := S19.out.call hr; obtain ⟨rfl, -, -⟩ := hr; clear z26; have z26 : w20.cell? ⟨w.heap.size, 26, none⟩ = some (.slice none 0 0) := S20.blk.cell 26; have f26 : w20.frozen? ⟨w.heap.size, 26, none⟩ = false := S20.blk.frozen 26; have S20 := Lib.hid S20; clear tk20 _t))
  go_loopw [6, 7, 8] (fun vo vi _ wr => vo = .slice none 0 0 ∧ vi = .int .i64 0 ∧ w20 = wr) (fun _ _ _ _ => 0)
  case atStart => exact ⟨rfl, rfl, rfl⟩
  case round =>
    obtain ⟨rfl, rfl, rfl⟩ := hrel
    have S21 := Lib.hid (Wr.set (i := 26) (u := .slice none 0 0) S20.out rfl)
    go_wp2_with (first
      | (refine wpl_load_blk rfl 38 (.tmp 3) rfl w.heap.size 38 _ _ rfl S21.out.blk Try.underlying38 rfl Try.size_msg ?_)
      | (refine wpl_store_blk rfl 38 (.tmp 4) (.tmp 139) rfl (w.heap.size + 1) 38 (#[.int .i64 0, .int .i64 0, .int .i64 0, .int .u64 0, .int .u64 0, .int .u64 0, .int .u64 0, .int .u64 0, .bool false, .bool false, .slice none 0 0, .slice none 0 0, .slice none 0 0, .int .u64 0, .int .i64 0, .int .u64 0, .int .i64 0, .int .i64 0, .int .i64 0, .int .u32 0, .slice none 0 0, .int .u64 0, .int .u64 0, .int .i64 0, .string ⟨#[]⟩, .int .i64 0, .slice none 0 0]) (#[.int .i64 M.kind, .int .i64 M.fro, .int .i64 M.to, .int .u64 M.term, .int .u64 M.index, .int .u64 M.logt, .int .u64 M.commit, .int .u64 M.ctx, .bool M.ok, .bool M.force, .slice none 0 0, .slice none 0 0, .slice none 0 0, .int .u64 M.ver, .int .i64 M.idx, .int .u64 M.ep, .int .i64 M.kk, .int .i64 M.nn, .int .i64 M.sz, .int .u32 M.sm, .slice D m dc, .int .u64 M.client, .int .u64 M.seq, .int .i64 M.op, .string M.key, .int .i64 M.code, .slice none 0 0]) rfl rfl S21.out.res rfl Try.size_msg rfl ?_; intro wz hB hO; have DN := Lib.hid (S21.out.done hO.out hB.out); have BZ := hB; clear hB hO))
    refine bodyPost_ret (v := .agg #[.int .i64 M.kind, .int .i64 M.fro, .int .i64 M.to, .int .u64 M.term, .int .u64 M.index, .int .u64 M.logt, .int .u64 M.commit, .int .u64 M.ctx, .bool M.ok, .bool M.force, .slice none 0 0, .slice none 0 0, .slice none 0 0, .int .u64 M.ver, .int .i64 M.idx, .int .u64 M.ep, .int .i64 M.kk, .int .i64 M.nn, .int .i64 M.sz, .int .u32 M.sm, .slice D m dc, .int .u64 M.client, .int .u64 M.seq, .int .i64 M.op, .string M.key, .int .i64 M.code, .slice none 0 0]) (res_c Try.results43 rfl (load_blk BZ.out Try.underlying38 rfl Try.size_msg)) rfl ⟨rfl, ?_, DN.out.2⟩
    have h := DN.out.1
    unfold Mg.bytes
    rw [HML.out]
    simpa only [List.append_assoc] using h
/-- Bytes that come back. -/
def RetO (ys : List Nat) (w : World) (e : Ending) (w' : World) : Prop := ∃ A cap, e = .returned (.slice A ys.length cap) ∧ Reads w' w'.heap.size 1 A ys.length (ys.map bv) ∧ Below w.heap.size w w'
set_option maxRecDepth 100000 in
set_option maxHeartbeats 400000 in
theorem pen_writer (A : Option Addr) (n cap : Nat) (xs : List Nat) (w : World) (hr : Reads w w.heap.size 1 A n (xs.map bv)) (hm : n ≤ 140737488351232) :
    Calls Try.prog 42 #[.slice A n cap] w (fun e w' => ∃ g, e = .returned (.pointer (some ⟨g, 0, none⟩)) ∧ w.heap.size ≤ g ∧ Below w.heap.size w w' ∧ Pen (fun k => k < w.heap.size) g xs w') := by
  have hn : xs.length = n := by simpa using hr.1
  go_enter Try.func42, Try.ntmps42
  go_wp2_with (at_builtin
               refine wpl_append rfl (.tmp 3) (.tmp 4) _ rfl w w.heap.size 5 _ 1 1 Try.underlying33 Try.infoU8 rfl (by decide) (.slice (some ⟨w.heap.size, 0, none⟩) 0 0) 0 [] rfl ?own (w.heap.size + 1) A n cap (xs.map bv) rfl ?rd (bv_one xs) (by omega) (by decide) ?bel ?base ?_
               case own => exact World.ownsRow_lit _ #[] 0 (Nat.le_refl _) (by unfold maxLen; omega) rfl
               case rd => exact (hr.alloc (Nat.le_refl _) _).more (by simp)
               case bel => exact (Below.refl _ _).alloc (Nat.le_refl _) _
               case base => simp
               intro v1 w1 hh
               obtain ⟨PA, pn, pc, rfl⟩ : ∃ PA pn pc, v1 = .slice PA pn pc := (by obtain ⟨x, y, e, _⟩ := own_slice hh.out.1; exact ⟨_, _, _, e⟩))
  go_ret
  obtain ⟨h1, h2, h3⟩ := hh.out
  refine ⟨w1.heap.size, rfl, h3, h2.alloc h3 _, ⟨_, Blk.new _ _ _, ?_, fun e => by have := (h1.lt _ e).2; omega, fun k hk e => by have := (h1.lt _ e).1; omega⟩⟩
  have h := own_baseO h1 (Nat.zero_le _)
  rw [hn]
  simpa using h.alloc _
set_option maxRecDepth 100000 in
theorem pen_written (H : Nat → Prop) (g : Nat) (xs : List Nat) (w : World) (hp : Pen H g xs w) : Calls Try.prog 44 #[.pointer (some ⟨g, 0, none⟩)] w (fun e w' => (∃ A cap, e = .returned (.slice A xs.length cap) ∧ Reads w w.heap.size 1 A xs.length (xs.map bv)) ∧ w = w') := by
  obtain ⟨v, hB, hO, -, -⟩ := hp.out
  obtain ⟨A, cap, rfl, -, -⟩ := own_slice hO
  have z0 : w.cell? ⟨g, 0, none⟩ = some (.slice A xs.length cap) := hB.cell 0
  have HR := Lib.hid (Reads.of_own hO)
  clear hB hO
  go_enter Try.func44, Try.ntmps44
  go_wp2
  go_ret
  exact ⟨⟨A, cap, rfl, HR.out⟩, rfl⟩
set_option maxRecDepth 100000 in
set_option maxHeartbeats 1000000 in
/-- A message's bytes. -/
theorem put_msg (M : Mg) (m : Nat) (D : Option Addr) (dc : Nat) (w : World) (hM : M.Ok) (hm : M.data.length = m) (HE : Hid (Reads w w.heap.size 1 D m (M.data.map bv))) :
    Calls Try.prog 35 #[.agg (M.cs m D dc)] w (RetO M.bytes w) := by
  have HM := Lib.hid hM
  have HL := Lib.hid hm
  clear hM hm
  have b1 := Lib.hid (Blk.new w 38 (M.cs m D dc))
  have n1 := Lib.hid ((Below.refl w.heap.size w).alloc (Nat.le_refl _) (.cells (M.cs m D dc) 38))
  go_enter Try.func35, Try.ntmps35
  go_wp2_with (first
    | (go_at_call 42; refine (pen_writer none 0 0 [] _ Reads.none_ (by omega)).mono ?_; rintro e w1 ⟨g, rfl, hg, hb, hp⟩; have HB1 := Lib.hid hb; have HP1 := Lib.hid hp; have HG1 := Lib.hid hg; have B1 := Lib.hid (b1.out.below hb b1.out.lt); clear hg hb hp)
    | (refine wpl_load_blk rfl 38 (.tmp 1) rfl w.heap.size 38 _ _ rfl B1.out Try.underlying38 rfl Try.size_msg ?_)
    | (go_at_call 43; refine (pen_fields _ g [] M m D dc _ HP1 (Lib.hid (fun k hk => ⟨Nat.lt_of_lt_of_le hk HB1.out.size, by have := HG1.out; simp at this hk ⊢; omega⟩)) HM.out HL.out (Lib.hid ((HE.out.later n1.out).later HB1.out)) (Lib.hid (fun h0 ad e => by obtain ⟨ad', e', hl, _⟩ := HE.out.2 h0; rw [e] at e'; injection e' with e'; subst e'; simp; omega)) (by simp)).mono ?_; rintro e w2 ⟨rfl, p2, k2⟩; have P2 := Lib.hid p2; have K2 := Lib.hid k2; clear p2 k2)
    | (go_at_call 44; refine (pen_written _ g _ _ P2.out).mono ?_; rintro e w3 ⟨⟨A, cap, rfl, hr⟩, rfl⟩; have HR := Lib.hid hr; clear hr))
  go_ret
  have hr := HR.out
  refine ⟨A, cap, rfl, by simpa using hr, ?_⟩
  exact (n1.out.trans (HB1.out.mono (by simp))).trans (K2.out.toBelow (by have := HB1.out.size; simp at this; omega) (fun k hk => by simp; omega))
section
variable {P : Program} {l : List Oper} {md : Region.Mode} {Q : Exit → Act → World → Prop} {S0 S S0' S' : World → Prop} {s : Nat}
theorem wpAnyT_mono (h0 : ∀ w, S0' w → S0 w) (h1 : ∀ w, S' w → S w) : ∀ (fuel : Nat) (listed : Array Bool) (a : Act) (w : World), wpAnyT P md l Q S0' S' s fuel listed a w → wpAnyT P md l Q S0 S s fuel listed a w
  | 0, _, _, _, h => h
  | fuel + 1, _, _, _, h => ⟨h.1, fun i hi => wpOp_mono (fun a' w' h' => ⟨⟨h0 _ h'.1.1, fun q => h1 _ (h'.1.2 q)⟩, wpAnyT_mono h0 h1 fuel _ a' w' h'.2⟩) (h.2 i hi)⟩
end
set_option maxRecDepth 100000 in
set_option maxHeartbeats 1000000 in
/-- The same content makes the same message. -/
theorem msg_same (M : Mg) (m : Nat) (D : Option Addr) (dc m' : Nat) (D' : Option Addr) (dc' : Nat) (w : World) (hM : M.Ok) (hm : M.data.length = m) (hm' : M.data.length = m') (HE : Hid (Reads w w.heap.size 1 D m (M.data.map bv))) (HE' : Hid (Reads w w.heap.size 1 D' m' (M.data.map bv))) :
    Calls Try.prog 16 #[.agg (M.cs m D dc), .agg (M.cs m' D' dc')] w (fun e w' => e = .returned (.bool true) ∧ Below w.heap.size w w') := by
  have HM := Lib.hid hM
  have HL := Lib.hid hm
  have HL' := Lib.hid hm'
  clear hM hm hm'
  have b1 := Lib.hid ((Blk.new w 38 (M.cs m D dc)).alloc (.cells (M.cs m' D' dc') 38))
  have b2 := Lib.hid (Blk.new (w.alloc (.cells (M.cs m D dc) 38)) 38 (M.cs m' D' dc'))
  have n1 := Lib.hid (((Below.refl w.heap.size w).alloc (Nat.le_refl _) (.cells (M.cs m D dc) 38)).alloc (by simp) (.cells (M.cs m' D' dc') 38))
  have es : (w.alloc (.cells (M.cs m D dc) 38)).heap.size = w.heap.size + 1 := by simp
  rw [es] at b2
  go_enter Try.func16, Try.ntmps16
  go_wp2
  obtain ⟨W, hW⟩ : ∃ W, (w.alloc (.cells (M.cs m D dc) 38)).alloc (.cells (M.cs m' D' dc') 38) = W := ⟨_, rfl⟩
  rw [hW] at b1 b2 n1 ⊢
  clear hW es
  refine wp_region_late (S0 := fun _ => True) (S := fun w' => Blk w' w.heap.size 38 (M.cs m D dc) ∧ Blk w' (w.heap.size + 1) 38 (M.cs m' D' dc')) 7 8 (by kernel_rfl) rfl ⟨trivial, b1.out.drew, b2.out.drew⟩ (fun wd hwd hH => ?_)
  have nd := Lib.hid (show Below w.heap.size w wd from by rw [hwd]; exact n1.out.drew)
  clear hwd b1 b2 n1
  refine wpAnyT_take 0 rfl (by kernel_rfl) (fun _ _ _ h => h) (yields_load_blk rfl 38 (.tmp 2) rfl w.heap.size 38 (M.cs m D dc) _ rfl (fun w' hw' => hw'.1) Try.underlying38 rfl Try.size_msg) hH ?_
  try simp only [Act.put, List.setIfInBounds_toArray, List.set_cons_zero, List.set_cons_succ]
  refine wpAnyT_take 3 rfl (by kernel_rfl) (fun _ _ _ h => h) (yields_load_blk rfl 38 (.tmp 3) rfl (w.heap.size + 1) 38 (M.cs m' D' dc') _ rfl (fun w' hw' => hw'.2) Try.underlying38 rfl Try.size_msg) hH ?_
  try simp only [Act.put, List.setIfInBounds_toArray, List.set_cons_zero, List.set_cons_succ]
  have H3 := Lib.hid (show ((strOf M.bytes).toList == (strOf M.bytes).toList) = true from by simp)
  refine wpAnyT_one 1 rfl (by kernel_rfl) (fun K hK => ?_)
  go_simp
  (go_at_call 35; refine (put_msg M m D dc _ HM.out HL.out (Lib.hid ((HE.out.below nd.out).more nd.out.size))).mono ?_; rintro e w1 ⟨A1, cap1, rfl, r1, hb⟩; have R1 := Lib.hid r1; have HB1 := Lib.hid hb; clear r1 hb)
  refine hK.out _ _ ⟨trivial, hH.2.1.below HB1.out hH.2.1.lt, hH.2.2.below HB1.out hH.2.2.lt⟩ (fun hH1 => ?_)
  clear hK K
  try simp only [Act.put, List.setIfInBounds_toArray, List.set_cons_zero, List.set_cons_succ]
  refine wpAnyT_mono (S0' := fun w' => Reads w' w'.heap.size 1 A1 M.bytes.length (M.bytes.map bv)) (S' := fun w' => Blk w' w.heap.size 38 (M.cs m D dc) ∧ Blk w' (w.heap.size + 1) 38 (M.cs m' D' dc')) (fun _ _ => trivial) (fun _ h => h) _ _ _ _ ?_
  refine wpAnyT_stay 2 (v := ?_) rfl (by kernel_rfl) (fun _ _ _ h => h) (Or.inl ⟨by rfl, ?_⟩) ⟨R1.out, fun _ => hH1.2⟩ ?_
  rotate_left
  · (intro wx hx; have kc := run_conv_bytes (P := Try.prog) (src := 33) (dst := 9) (cap := cap1) Try.underlying33 Try.underlying5 Try.underlying9 hx; go_simp <;> with_reducible rfl)
  try simp only [Act.put, List.setIfInBounds_toArray, List.set_cons_zero, List.set_cons_succ]
  refine wpAnyT_one 4 rfl (by kernel_rfl) (fun K hK => ?_)
  go_simp
  (go_at_call 35; refine (put_msg M m' D' dc' _ HM.out HL'.out (Lib.hid ((HE'.out.below (nd.out.trans (HB1.out.mono nd.out.size))).more (Nat.le_trans nd.out.size HB1.out.size)))).mono ?_; rintro e w2 ⟨A2, cap2, rfl, r2, hb⟩; have R2 := Lib.hid r2; have HB2 := Lib.hid hb; clear r2 hb)
  refine hK.out _ _ ⟨R1.out.later HB2.out, hH1.2.1.below HB2.out hH1.2.1.lt, hH1.2.2.below HB2.out hH1.2.2.lt⟩ (fun hH2 => ?_)
  clear hK K
  try simp only [Act.put, List.setIfInBounds_toArray, List.set_cons_zero, List.set_cons_succ]
  refine wpAnyT_mono (S0' := fun w' => Reads w' w'.heap.size 1 A2 M.bytes.length (M.bytes.map bv) ∧ Reads w' w'.heap.size 1 A1 M.bytes.length (M.bytes.map bv)) (S' := fun w' => Blk w' w.heap.size 38 (M.cs m D dc) ∧ Blk w' (w.heap.size + 1) 38 (M.cs m' D' dc')) (fun _ h => h.2) (fun _ h => h) _ _ _ _ ?_
  refine wpAnyT_stay 5 (v := ?_) rfl (by kernel_rfl) (fun _ _ _ h => h) (Or.inl ⟨by rfl, ?_⟩) ⟨⟨R2.out, hH2.1⟩, fun _ => hH2.2⟩ ?_
  rotate_left
  · (intro wx hx; have kc := run_conv_bytes (P := Try.prog) (src := 33) (dst := 9) (cap := cap2) Try.underlying33 Try.underlying5 Try.underlying9 hx.1; go_simp <;> with_reducible rfl)
  try simp only [Act.put, List.setIfInBounds_toArray, List.set_cons_zero, List.set_cons_succ]
  refine wpAnyT_stay 6 (v := ?_) rfl (by kernel_rfl) (fun _ _ _ h => h) (Or.inl ⟨by rfl, ?_⟩) ⟨⟨R2.out, hH2.1⟩, fun _ => hH2.2⟩ ?_
  rotate_left
  · (intro wx hx; have h3 := H3.out; go_simp <;> with_reducible rfl)
  try simp only [Act.put, List.setIfInBounds_toArray, List.set_cons_zero, List.set_cons_succ]
  refine wpAnyT_last 7 rfl (by kernel_rfl) (by decide) (fun K hK => ?_)
  go_simp
  refine hK.out _ _ ⟨R2.out, hH2.1⟩ (fun hH7 => ?_)
  clear hK K
  try simp only [Act.put, List.setIfInBounds_toArray, List.set_cons_zero, List.set_cons_succ]
  refine wpAnyT_done (by kernel_rfl) ?_ _
  clear hH hH1 hH2 hH7
  go_wp2
  go_ret
  exact ⟨rfl, (nd.out.trans (HB1.out.mono nd.out.size)).trans (HB2.out.mono (Nat.le_trans nd.out.size HB1.out.size))⟩
end Go.Proofs.Ytmamdnikjfmenaa
