/-
  THE REFERENCE'S READER of states, exported. (printed by gen_pameta.py); WHAT BOTH READERS of states answer at any place. (printed by gen_pameta.py); WHAT COMES IN: objects, intents, sessions, wastes, states. (printed by gen_pai2.py); WHAT THE SECOND FORM's CONDITION GIVES: no slice and no string that comes in is longer than 1048576. (joined out of PaQ21, PaL3, PaI2, Upto by shake.py)
-/
import Derived.Test.YthgiafjiemiifaaGreatPbk37
import Derived.Test.YthgiafjiemiifaaGreatPbk22
import Derived.Test.YthgiafjiemiifaaGreatPbk41
import Derived.Test.YthgiafjiemiifaaGreatPbk40
import Derived.Test.YthgiafjiemiifaaGreatPbk24
import Derived.Test.YthgiafjiemiifaaGreatPbk31
import Derived.Test.YthgiafjiemiifaaGreatPbk01
section
namespace Go.Proofs.YthgiafjiemiifaaGreat
open Go.RowKit OctMath
set_option linter.unusedVariables false
set_option linter.unusedSimpArgs false
structure MetL {σ : Type} (M : Md σ) (m : MM) (w : World) : Prop where
  map : Ls M 2 m.MA m.x.mem.length (mcells m.x.mem) w
  next : Ls M 2 m.NA m.x.nem.length (mcells m.x.nem) w
  cut : Ls M 1 m.CA m.x.cut.length (m.x.cut.map iv) w
  objs : Ls M 7 m.OA m.os.length (m.os.flatMap omCs) w
  ints : Ls M 9 m.IA m.is.length (m.is.flatMap imCs) w
  sess : Ls M 5 m.SA m.x.sess.length (m.x.sess.flatMap sesL) w
  wass : Ls M 4 m.WA m.x.wass.length (m.x.wass.flatMap wasL) w
  down : Ls M 1 m.DA m.x.down.length (m.x.down.map iv) w
  oss : ∀ r ∈ m.os.map OM.row, Ls M 1 r.1 r.2.2.length (r.2.2.map iv) w
  iss : ∀ r ∈ m.is.map IM.row, Ls M 1 r.1 r.2.2.length (r.2.2.map iv) w
section
variable {σ : Type} {M : Md σ} {lo b : Nat} {m : MM} {s : σ} {w w' : World}
theorem MetX.ls (h : MetX M lo m w) : MetL M m w := ⟨h.map.ls, h.next.ls, h.cut.ls, h.objs.ls, h.ints.ls, h.sess.ls, h.wass.ls, h.down.ls, fun r hr => (h.oss.all r hr).ls, fun r hr => (h.iss.all r hr).ls⟩
theorem MetL.alloc (hM : MdOk M) (h : MetL M m w) (hs : M.St s w) (o : Obj) : MetL M m (w.alloc o) := ⟨h.map.alloc hM hs o, h.next.alloc hM hs o, h.cut.alloc hM hs o, h.objs.alloc hM hs o, h.ints.alloc hM hs o, h.sess.alloc hM hs o, h.wass.alloc hM hs o, h.down.alloc hM hs o, fun r hr => (h.oss r hr).alloc hM hs o, fun r hr => (h.iss r hr).alloc hM hs o⟩
theorem MetL.apart (h : MetL M m w) (hb : w.heap.size ≤ b) : ApM b m := ⟨h.map.apart hb, h.next.apart hb, h.cut.apart hb, h.objs.apart hb, h.ints.apart hb, h.sess.apart hb, h.wass.apart hb, h.down.apart hb, fun r hr => (h.oss r hr).apart hb, fun r hr => (h.iss r hr).apart hb⟩
theorem MetL.only (hM : MdOk M) (h : MetL M m w) (hs : M.St s w) (ho : Only b w w') (hf : Free M b w) (ha : ApM b m) : MetL M m w' := ⟨h.map.only hM hs ho hf ha.map, h.next.only hM hs ho hf ha.next, h.cut.only hM hs ho hf ha.cut, h.objs.only hM hs ho hf ha.objs, h.ints.only hM hs ho hf ha.ints, h.sess.only hM hs ho hf ha.sess, h.wass.only hM hs ho hf ha.wass, h.down.only hM hs ho hf ha.down, fun r hr => (h.oss r hr).only hM hs ho hf (ha.oss r hr), fun r hr => (h.iss r hr).only hM hs ho hf (ha.iss r hr)⟩
end
end Go.Proofs.YthgiafjiemiifaaGreat
end
section
namespace Go.Proofs.YthgiafjiemiifaaGreat
open Go.RowKit OctMath
set_option linter.unusedVariables false
set_option linter.unusedSimpArgs false
def mm0 : MM := ⟨met0, none, 0, none, 0, none, 0, none, 0, none, 0, none, 0, none, 0, none, 0, [], []⟩
theorem metin_nil (lo : Nat) (w : World) : MetIn lo mm0 w := ⟨lst_nil _ _ _, lst_nil _ _ _, lst_nil _ _ _, lst_nil _ _ _, lst_nil _ _ _, lst_nil _ _ _, lst_nil _ _ _, lst_nil _ _ _, rfl, rfl, ⟨fun r hr => (List.not_mem_nil hr).elim⟩, ⟨fun r hr => (List.not_mem_nil hr).elim⟩⟩
theorem xu_meta (A : Option Addr) (n cap : Nat) (bs : List Nat) (at_ : Int) (w : World) (HI : Hid (InB w A n cap bs)) : Calls Tryz.prog 10 #[.slice A n cap, .int .i64 at_] w (RetU (resOf (rMet bs) met0 n at_) (vMet w.heap.size) w) :=
  retU_of (fun _ => ⟨mm0, rfl, rfl, metin_nil _ _, met0_ok⟩) (fun p e hp => by rw [e]; exact met_read A n cap bs p w HI hp) (fun h => met_read_bad A n cap at_ w HI.out.reach h)
/-- A state that was read may be handed in. -/
theorem MetIn.rd {lo : Nat} {m : MM} {w : World} (h : MetIn lo m w) : MetR m w := ⟨h.map.rd, h.next.rd, h.cut.rd, by have := h.objs.rd; rwa [show m.os.length = m.x.objs.length from by rw [← h.os, List.length_map]] at this, by have := h.ints.rd; rwa [show m.is.length = m.x.ints.length from by rw [← h.is, List.length_map]] at this, h.sess.rd, h.wass.rd, h.down.rd, h.os, h.is, fun o ho => (h.oss.all _ (List.mem_map.2 ⟨o, ho, rfl⟩)).rd, fun o ho => (h.iss.all _ (List.mem_map.2 ⟨o, ho, rfl⟩)).rd⟩
end Go.Proofs.YthgiafjiemiifaaGreat
end
section
namespace Go.Proofs.YthgiafjiemiifaaGreat
open Go.RowKit OctMath
open Go.ChangeShapes Go.WideShapes Go.Deep
set_option linter.unusedVariables false
set_option linter.unusedSimpArgs false
/-- What comes in: no bound on its lists. -/
structure ObjW (x : ObjT) : Prop where
  key : ∀ y ∈ x.key, y < 256
  version : x.version < 18446744073709551616
  size : I64 x.size
  sum : x.sum < 4294967296
  group : I64 x.group
  epoch : x.epoch < 18446744073709551616
  nodes : ∀ y ∈ x.nodes, I64 y
theorem ObjW.ok {x : ObjT} (h : ObjW x) (h1 : x.key.length ≤ 1048576) (h2 : x.nodes.length ≤ 1048576) : ObjOk x := ⟨⟨h.key, h1⟩, h.version, h.size, h.sum, h.group, h.epoch, ⟨h.nodes, h2⟩⟩
structure InteW (x : IntT) : Prop where
  obj : ObjW x.obj
  client : x.client < 18446744073709551616
  seq : x.seq < 18446744073709551616
structure MetW (x : MetT) : Prop where
  k : I64 x.k
  n : I64 x.n
  groups : I64 x.groups
  mep : x.mep < 18446744073709551616
  mem : ∀ y ∈ x.mem, MemOk y
  nep : x.nep < 18446744073709551616
  nem : ∀ y ∈ x.nem, MemOk y
  cut : ∀ y ∈ x.cut, I64 y
  objs : ∀ y ∈ x.objs, ObjW y
  ints : ∀ y ∈ x.ints, InteW y
  sess : ∀ y ∈ x.sess, SesOk y
  wass : ∀ y ∈ x.wass, WasOk y
  down : ∀ y ∈ x.down, I64 y
  last : x.last < 18446744073709551616
section
variable {H : Type} {enc : TypeId × Value → H} {w : World} {base : Nat} {sp : Nat → Bool} {held : Bool}
theorem open_obj1 {fuel : Nat} {cs : List Value} {x : DataW H × List MemPlace} (h : DataW.trod enc Tryz.prog w base sp held fuel 63 cs = some x) : ∃ m : OM, cs = omCs m ∧ ObjW m.x ∧ Reads w w.heap.size 1 m.A m.x.nodes.length (m.x.nodes.map iv) := by
  obtain ⟨fs, hu, hk⟩ : ∃ fs : Array Field, Tryz.prog.underlying 63 = some (.struct fs) ∧ (([0, 1, 2, 3, 4, 5, 6] : List Nat).map fun i => fs[i]?.map fun f => (f.type, f.offset)) = [some (9, 0), some (23, 1), some (3, 2), some (26, 3), some (3, 4), some (23, 5), some (34, 6)] := ⟨_, Tryz.underlying63, by kernel_rfl⟩
  simp only [List.map_cons, List.map_nil, List.cons.injEq, and_true] at hk
  obtain ⟨k0, k1, k2, k3, k4, k5, k6⟩ := hk
  obtain ⟨hlen, n, fld⟩ := trod_fld hu h
  have hl0 : cs.length = 7 := hlen.trans (by kernel_rfl)
  clear hlen
  clear h
  obtain ⟨a0, s0, rfl, hl1⟩ := cons_of hl0
  obtain ⟨a1, s1, rfl, hl2⟩ := cons_of hl1
  obtain ⟨a2, s2, rfl, hl3⟩ := cons_of hl2
  obtain ⟨a3, s3, rfl, hl4⟩ := cons_of hl3
  obtain ⟨a4, s4, rfl, hl5⟩ := cons_of hl4
  obtain ⟨a5, s5, rfl, hl6⟩ := cons_of hl5
  obtain ⟨a6, s6, rfl, hl7⟩ := cons_of hl6
  obtain rfl := nil_of hl7
  obtain ⟨y0, f0⟩ := fld 0 0 1 _ k0 (by kernel_rfl)
  simp only [List.drop_succ_cons, List.drop_zero, List.take_succ_cons, List.take_zero] at f0
  obtain ⟨y1, f1⟩ := fld 1 1 1 _ k1 (by kernel_rfl)
  simp only [List.drop_succ_cons, List.drop_zero, List.take_succ_cons, List.take_zero] at f1
  obtain ⟨y2, f2⟩ := fld 2 2 1 _ k2 (by kernel_rfl)
  simp only [List.drop_succ_cons, List.drop_zero, List.take_succ_cons, List.take_zero] at f2
  obtain ⟨y3, f3⟩ := fld 3 3 1 _ k3 (by kernel_rfl)
  simp only [List.drop_succ_cons, List.drop_zero, List.take_succ_cons, List.take_zero] at f3
  obtain ⟨y4, f4⟩ := fld 4 4 1 _ k4 (by kernel_rfl)
  simp only [List.drop_succ_cons, List.drop_zero, List.take_succ_cons, List.take_zero] at f4
  obtain ⟨y5, f5⟩ := fld 5 5 1 _ k5 (by kernel_rfl)
  simp only [List.drop_succ_cons, List.drop_zero, List.take_succ_cons, List.take_zero] at f5
  obtain ⟨y6, f6⟩ := fld 6 6 1 _ k6 (by kernel_rfl)
  simp only [List.drop_succ_cons, List.drop_zero, List.take_succ_cons, List.take_zero] at f6
  clear fld hl0 hl1 hl2 hl3 hl4 hl5 hl6 hl7
  obtain ⟨z0, e0, -, -⟩ := DataW.trod_string Tryz.underlying9 f0
  injection e0 with e0
  subst e0
  obtain ⟨z1, e1, -, b1⟩ := DataW.trod_int Tryz.underlying23 f1
  injection e1 with e1
  subst e1
  obtain ⟨z1, rfl, c1⟩ := nat_u64 b1
  obtain ⟨z2, e2, -, b2⟩ := DataW.trod_int Tryz.underlying3 f2
  injection e2 with e2
  subst e2
  have b2 := int_i64 b2
  obtain ⟨z3, e3, -, b3⟩ := DataW.trod_int Tryz.underlying26 f3
  injection e3 with e3
  subst e3
  obtain ⟨z3, rfl, c3⟩ := nat_u32 b3
  obtain ⟨z4, e4, -, b4⟩ := DataW.trod_int Tryz.underlying3 f4
  injection e4 with e4
  subst e4
  have b4 := int_i64 b4
  obtain ⟨z5, e5, -, b5⟩ := DataW.trod_int Tryz.underlying23 f5
  injection e5 with e5
  subst e5
  obtain ⟨z5, rfl, c5⟩ := nat_u64 b5
  obtain ⟨A, k, c, l, e6, r6, h6, o6, -, -⟩ := open_intl f6
  subst e6
  exact ⟨⟨⟨octs z0, z1, z2, z3, z4, z5, l⟩, A, c⟩, by unfold omCs; simp only [strOf_octs, h6], ⟨octs_byt z0, c1, b2, c3, b4, c5, o6⟩, by show Reads w w.heap.size 1 A l.length (l.map iv); rw [h6]; exact r6⟩
theorem open_objs {fuel : Nat} {v : Value} {x : DataW H × List MemPlace} (h : DataW.trod enc Tryz.prog w base sp held fuel 48 [v] = some x) :
    ∃ A n cap, ∃ l : List OM, v = .slice A n cap ∧ Reads w w.heap.size 7 A n (l.flatMap omCs) ∧ l.length = n ∧ (∀ m ∈ l, ObjW m.x ∧ Reads w w.heap.size 1 m.A m.x.nodes.length (m.x.nodes.map iv)) ∧ n ≤ cap ∧ cap ≤ maxLen :=
  open_row Tryz.underlying48 (by kernel_rfl) (by decide) (fun n cs y hy => open_obj1 hy) (fun _ => rfl) h
theorem open_inte1 {fuel : Nat} {cs : List Value} {x : DataW H × List MemPlace} (h : DataW.trod enc Tryz.prog w base sp held fuel 65 cs = some x) : ∃ m : IM, cs = imCs m ∧ InteW m.x ∧ Reads w w.heap.size 1 m.A m.x.obj.nodes.length (m.x.obj.nodes.map iv) := by
  obtain ⟨fs, hu, hk⟩ : ∃ fs : Array Field, Tryz.prog.underlying 65 = some (.struct fs) ∧ (([0, 1, 2] : List Nat).map fun i => fs[i]?.map fun f => (f.type, f.offset)) = [some (63, 0), some (23, 7), some (23, 8)] := ⟨_, Tryz.underlying65, by kernel_rfl⟩
  simp only [List.map_cons, List.map_nil, List.cons.injEq, and_true] at hk
  obtain ⟨k0, k1, k2⟩ := hk
  obtain ⟨hlen, n, fld⟩ := trod_fld hu h
  have hl0 : cs.length = 9 := hlen.trans (by kernel_rfl)
  clear hlen
  clear h
  obtain ⟨a0, s0, rfl, hl1⟩ := cons_of hl0
  obtain ⟨a1, s1, rfl, hl2⟩ := cons_of hl1
  obtain ⟨a2, s2, rfl, hl3⟩ := cons_of hl2
  obtain ⟨a3, s3, rfl, hl4⟩ := cons_of hl3
  obtain ⟨a4, s4, rfl, hl5⟩ := cons_of hl4
  obtain ⟨a5, s5, rfl, hl6⟩ := cons_of hl5
  obtain ⟨a6, s6, rfl, hl7⟩ := cons_of hl6
  obtain ⟨a7, s7, rfl, hl8⟩ := cons_of hl7
  obtain ⟨a8, s8, rfl, hl9⟩ := cons_of hl8
  obtain rfl := nil_of hl9
  obtain ⟨y0, f0⟩ := fld 0 0 7 _ k0 (by kernel_rfl)
  simp only [List.drop_succ_cons, List.drop_zero, List.take_succ_cons, List.take_zero] at f0
  obtain ⟨y1, f1⟩ := fld 1 7 1 _ k1 (by kernel_rfl)
  simp only [List.drop_succ_cons, List.drop_zero, List.take_succ_cons, List.take_zero] at f1
  obtain ⟨y2, f2⟩ := fld 2 8 1 _ k2 (by kernel_rfl)
  simp only [List.drop_succ_cons, List.drop_zero, List.take_succ_cons, List.take_zero] at f2
  clear fld hl0 hl1 hl2 hl3 hl4 hl5 hl6 hl7 hl8 hl9
  obtain ⟨om, e0, o0, r0⟩ := open_obj1 f0
  unfold omCs at e0
  injection e0 with p0 e0
  injection e0 with p1 e0
  injection e0 with p2 e0
  injection e0 with p3 e0
  injection e0 with p4 e0
  injection e0 with p5 e0
  injection e0 with p6 e0
  subst p0 p1 p2 p3 p4 p5 p6
  obtain ⟨z1, e1, -, b1⟩ := DataW.trod_int Tryz.underlying23 f1
  injection e1 with e1
  subst e1
  obtain ⟨z1, rfl, c1⟩ := nat_u64 b1
  obtain ⟨z2, e2, -, b2⟩ := DataW.trod_int Tryz.underlying23 f2
  injection e2 with e2
  subst e2
  obtain ⟨z2, rfl, c2⟩ := nat_u64 b2
  exact ⟨⟨⟨om.x, z1, z2⟩, om.A, om.c⟩, rfl, ⟨o0, c1, c2⟩, r0⟩
theorem open_intes {fuel : Nat} {v : Value} {x : DataW H × List MemPlace} (h : DataW.trod enc Tryz.prog w base sp held fuel 49 [v] = some x) :
    ∃ A n cap, ∃ l : List IM, v = .slice A n cap ∧ Reads w w.heap.size 9 A n (l.flatMap imCs) ∧ l.length = n ∧ (∀ m ∈ l, InteW m.x ∧ Reads w w.heap.size 1 m.A m.x.obj.nodes.length (m.x.obj.nodes.map iv)) ∧ n ≤ cap ∧ cap ≤ maxLen :=
  open_row Tryz.underlying49 (by kernel_rfl) (by decide) (fun n cs y hy => open_inte1 hy) (fun _ => rfl) h
theorem open_ses1 {fuel : Nat} {cs : List Value} {x : DataW H × List MemPlace} (h : DataW.trod enc Tryz.prog w base sp held fuel 132 cs = some x) : ∃ y : SesT, cs = sesL y ∧ SesOk y := by
  obtain ⟨fs, hu, hk⟩ : ∃ fs : Array Field, Tryz.prog.underlying 132 = some (.struct fs) ∧ (([0, 1, 2, 3, 4] : List Nat).map fun i => fs[i]?.map fun f => (f.type, f.offset)) = [some (23, 0), some (23, 1), some (4, 2), some (23, 3), some (130, 4)] := ⟨_, Tryz.underlying132, by kernel_rfl⟩
  simp only [List.map_cons, List.map_nil, List.cons.injEq, and_true] at hk
  obtain ⟨k0, k1, k2, k3, k4⟩ := hk
  obtain ⟨hlen, n, fld⟩ := trod_fld hu h
  have hl0 : cs.length = 5 := hlen.trans (by kernel_rfl)
  clear hlen
  clear h
  obtain ⟨a0, s0, rfl, hl1⟩ := cons_of hl0
  obtain ⟨a1, s1, rfl, hl2⟩ := cons_of hl1
  obtain ⟨a2, s2, rfl, hl3⟩ := cons_of hl2
  obtain ⟨a3, s3, rfl, hl4⟩ := cons_of hl3
  obtain ⟨a4, s4, rfl, hl5⟩ := cons_of hl4
  obtain rfl := nil_of hl5
  obtain ⟨y0, f0⟩ := fld 0 0 1 _ k0 (by kernel_rfl)
  simp only [List.drop_succ_cons, List.drop_zero, List.take_succ_cons, List.take_zero] at f0
  obtain ⟨y1, f1⟩ := fld 1 1 1 _ k1 (by kernel_rfl)
  simp only [List.drop_succ_cons, List.drop_zero, List.take_succ_cons, List.take_zero] at f1
  obtain ⟨y2, f2⟩ := fld 2 2 1 _ k2 (by kernel_rfl)
  simp only [List.drop_succ_cons, List.drop_zero, List.take_succ_cons, List.take_zero] at f2
  obtain ⟨y3, f3⟩ := fld 3 3 1 _ k3 (by kernel_rfl)
  simp only [List.drop_succ_cons, List.drop_zero, List.take_succ_cons, List.take_zero] at f3
  obtain ⟨y4, f4⟩ := fld 4 4 1 _ k4 (by kernel_rfl)
  simp only [List.drop_succ_cons, List.drop_zero, List.take_succ_cons, List.take_zero] at f4
  clear fld hl0 hl1 hl2 hl3 hl4 hl5
  obtain ⟨z0, e0, -, b0⟩ := DataW.trod_int Tryz.underlying23 f0
  injection e0 with e0
  subst e0
  obtain ⟨z0, rfl, c0⟩ := nat_u64 b0
  obtain ⟨z1, e1, -, b1⟩ := DataW.trod_int Tryz.underlying23 f1
  injection e1 with e1
  subst e1
  obtain ⟨z1, rfl, c1⟩ := nat_u64 b1
  obtain ⟨z2, e2, -⟩ := DataW.trod_bool Tryz.underlying4 f2
  injection e2 with e2
  subst e2
  obtain ⟨z3, e3, -, b3⟩ := DataW.trod_int Tryz.underlying23 f3
  injection e3 with e3
  subst e3
  obtain ⟨z3, rfl, c3⟩ := nat_u64 b3
  obtain ⟨z4, e4, -, b4⟩ := DataW.trod_int Tryz.underlying130 f4
  injection e4 with e4
  subst e4
  have b4 := int_i64 b4
  exact ⟨⟨z0, z1, z2, z3, z4⟩, rfl, c0, c1, c3, b4⟩
theorem open_sess {fuel : Nat} {v : Value} {x : DataW H × List MemPlace} (h : DataW.trod enc Tryz.prog w base sp held fuel 50 [v] = some x) :
    ∃ A n cap, ∃ l : List SesT, v = .slice A n cap ∧ Reads w w.heap.size 5 A n (l.flatMap sesL) ∧ l.length = n ∧ (∀ m ∈ l, SesOk m) ∧ n ≤ cap ∧ cap ≤ maxLen :=
  open_row Tryz.underlying50 (by kernel_rfl) (by decide) (fun n cs y hy => open_ses1 hy) (fun _ => rfl) h
theorem open_was1 {fuel : Nat} {cs : List Value} {x : DataW H × List MemPlace} (h : DataW.trod enc Tryz.prog w base sp held fuel 136 cs = some x) : ∃ y : WasT, cs = wasL y ∧ WasOk y := by
  obtain ⟨fs, hu, hk⟩ : ∃ fs : Array Field, Tryz.prog.underlying 136 = some (.struct fs) ∧ (([0, 1] : List Nat).map fun i => fs[i]?.map fun f => (f.type, f.offset)) = [some (28, 0), some (3, 3)] := ⟨_, Tryz.underlying136, by kernel_rfl⟩
  simp only [List.map_cons, List.map_nil, List.cons.injEq, and_true] at hk
  obtain ⟨k0, k1⟩ := hk
  obtain ⟨hlen, n, fld⟩ := trod_fld hu h
  have hl0 : cs.length = 4 := hlen.trans (by kernel_rfl)
  clear hlen
  clear h
  obtain ⟨a0, s0, rfl, hl1⟩ := cons_of hl0
  obtain ⟨a1, s1, rfl, hl2⟩ := cons_of hl1
  obtain ⟨a2, s2, rfl, hl3⟩ := cons_of hl2
  obtain ⟨a3, s3, rfl, hl4⟩ := cons_of hl3
  obtain rfl := nil_of hl4
  obtain ⟨y0, f0⟩ := fld 0 0 3 _ k0 (by kernel_rfl)
  simp only [List.drop_succ_cons, List.drop_zero, List.take_succ_cons, List.take_zero] at f0
  obtain ⟨y1, f1⟩ := fld 1 3 1 _ k1 (by kernel_rfl)
  simp only [List.drop_succ_cons, List.drop_zero, List.take_succ_cons, List.take_zero] at f1
  clear fld hl0 hl1 hl2 hl3 hl4
  obtain ⟨id, e0, b0⟩ := open_id1 f0
  injection e0 with q0 e0
  injection e0 with q1 e0
  injection e0 with q2 e0
  subst q0 q1 q2
  obtain ⟨z1, e1, -, b1⟩ := DataW.trod_int Tryz.underlying3 f1
  injection e1 with e1
  subst e1
  have b1 := int_i64 b1
  exact ⟨⟨id, z1⟩, rfl, b0, b1⟩
theorem open_wass {fuel : Nat} {v : Value} {x : DataW H × List MemPlace} (h : DataW.trod enc Tryz.prog w base sp held fuel 51 [v] = some x) :
    ∃ A n cap, ∃ l : List WasT, v = .slice A n cap ∧ Reads w w.heap.size 4 A n (l.flatMap wasL) ∧ l.length = n ∧ (∀ m ∈ l, WasOk m) ∧ n ≤ cap ∧ cap ≤ maxLen :=
  open_row Tryz.underlying51 (by kernel_rfl) (by decide) (fun n cs y hy => open_was1 hy) (fun _ => rfl) h
theorem open_met1 {fuel : Nat} {cs : List Value} {x : DataW H × List MemPlace} (h : DataW.trod enc Tryz.prog w base sp held fuel 53 cs = some x) : ∃ m : MM, cs = m.cs.toList ∧ MetR m w ∧ MetW m.x := by
  obtain ⟨fs, hu, hk⟩ : ∃ fs : Array Field, Tryz.prog.underlying 53 = some (.struct fs) ∧ (([0, 1, 2, 3, 4, 5, 6, 7, 8, 9, 10, 11] : List Nat).map fun i => fs[i]?.map fun f => (f.type, f.offset)) = [some (3, 0), some (3, 1), some (3, 2), some (31, 3), some (31, 5), some (34, 7), some (48, 8), some (49, 9), some (50, 10), some (51, 11), some (34, 12), some (23, 13)] := ⟨_, Tryz.underlying53, by kernel_rfl⟩
  simp only [List.map_cons, List.map_nil, List.cons.injEq, and_true] at hk
  obtain ⟨k0, k1, k2, k3, k4, k5, k6, k7, k8, k9, k10, k11⟩ := hk
  obtain ⟨hlen, n, fld⟩ := trod_fld hu h
  have hl0 : cs.length = 14 := hlen.trans (by kernel_rfl)
  clear hlen
  clear h
  obtain ⟨a0, s0, rfl, hl1⟩ := cons_of hl0
  obtain ⟨a1, s1, rfl, hl2⟩ := cons_of hl1
  obtain ⟨a2, s2, rfl, hl3⟩ := cons_of hl2
  obtain ⟨a3, s3, rfl, hl4⟩ := cons_of hl3
  obtain ⟨a4, s4, rfl, hl5⟩ := cons_of hl4
  obtain ⟨a5, s5, rfl, hl6⟩ := cons_of hl5
  obtain ⟨a6, s6, rfl, hl7⟩ := cons_of hl6
  obtain ⟨a7, s7, rfl, hl8⟩ := cons_of hl7
  obtain ⟨a8, s8, rfl, hl9⟩ := cons_of hl8
  obtain ⟨a9, s9, rfl, hl10⟩ := cons_of hl9
  obtain ⟨a10, s10, rfl, hl11⟩ := cons_of hl10
  obtain ⟨a11, s11, rfl, hl12⟩ := cons_of hl11
  obtain ⟨a12, s12, rfl, hl13⟩ := cons_of hl12
  obtain ⟨a13, s13, rfl, hl14⟩ := cons_of hl13
  obtain rfl := nil_of hl14
  obtain ⟨y0, f0⟩ := fld 0 0 1 _ k0 (by kernel_rfl)
  simp only [List.drop_succ_cons, List.drop_zero, List.take_succ_cons, List.take_zero] at f0
  obtain ⟨y1, f1⟩ := fld 1 1 1 _ k1 (by kernel_rfl)
  simp only [List.drop_succ_cons, List.drop_zero, List.take_succ_cons, List.take_zero] at f1
  obtain ⟨y2, f2⟩ := fld 2 2 1 _ k2 (by kernel_rfl)
  simp only [List.drop_succ_cons, List.drop_zero, List.take_succ_cons, List.take_zero] at f2
  obtain ⟨y3, f3⟩ := fld 3 3 2 _ k3 (by kernel_rfl)
  simp only [List.drop_succ_cons, List.drop_zero, List.take_succ_cons, List.take_zero] at f3
  obtain ⟨y4, f4⟩ := fld 4 5 2 _ k4 (by kernel_rfl)
  simp only [List.drop_succ_cons, List.drop_zero, List.take_succ_cons, List.take_zero] at f4
  obtain ⟨y5, f5⟩ := fld 5 7 1 _ k5 (by kernel_rfl)
  simp only [List.drop_succ_cons, List.drop_zero, List.take_succ_cons, List.take_zero] at f5
  obtain ⟨y6, f6⟩ := fld 6 8 1 _ k6 (by kernel_rfl)
  simp only [List.drop_succ_cons, List.drop_zero, List.take_succ_cons, List.take_zero] at f6
  obtain ⟨y7, f7⟩ := fld 7 9 1 _ k7 (by kernel_rfl)
  simp only [List.drop_succ_cons, List.drop_zero, List.take_succ_cons, List.take_zero] at f7
  obtain ⟨y8, f8⟩ := fld 8 10 1 _ k8 (by kernel_rfl)
  simp only [List.drop_succ_cons, List.drop_zero, List.take_succ_cons, List.take_zero] at f8
  obtain ⟨y9, f9⟩ := fld 9 11 1 _ k9 (by kernel_rfl)
  simp only [List.drop_succ_cons, List.drop_zero, List.take_succ_cons, List.take_zero] at f9
  obtain ⟨y10, f10⟩ := fld 10 12 1 _ k10 (by kernel_rfl)
  simp only [List.drop_succ_cons, List.drop_zero, List.take_succ_cons, List.take_zero] at f10
  obtain ⟨y11, f11⟩ := fld 11 13 1 _ k11 (by kernel_rfl)
  simp only [List.drop_succ_cons, List.drop_zero, List.take_succ_cons, List.take_zero] at f11
  clear fld hl0 hl1 hl2 hl3 hl4 hl5 hl6 hl7 hl8 hl9 hl10 hl11 hl12 hl13 hl14
  obtain ⟨z0, e0, -, b0⟩ := DataW.trod_int Tryz.underlying3 f0
  injection e0 with e0
  subst e0
  have b0 := int_i64 b0
  obtain ⟨z1, e1, -, b1⟩ := DataW.trod_int Tryz.underlying3 f1
  injection e1 with e1
  subst e1
  have b1 := int_i64 b1
  obtain ⟨z2, e2, -, b2⟩ := DataW.trod_int Tryz.underlying3 f2
  injection e2 with e2
  subst e2
  have b2 := int_i64 b2
  obtain ⟨ep3, MA, kMA, cMA, ms3, e3, b3, r3, h3, o3⟩ := open_map1 f3
  injection e3 with p0 e3
  injection e3 with p1 e3
  subst p0 p1
  obtain ⟨ep4, NA, kNA, cNA, ms4, e4, b4, r4, h4, o4⟩ := open_map1 f4
  injection e4 with p0 e4
  injection e4 with p1 e4
  subst p0 p1
  obtain ⟨CA, kCA, cCA, l5, e5, r5, h5, o5, -, -⟩ := open_intl f5
  subst e5
  obtain ⟨OA, kOA, cOA, l6, e6, r6, h6, o6, -, -⟩ := open_objs f6
  subst e6
  obtain ⟨IA, kIA, cIA, l7, e7, r7, h7, o7, -, -⟩ := open_intes f7
  subst e7
  obtain ⟨SA, kSA, cSA, l8, e8, r8, h8, o8, -, -⟩ := open_sess f8
  subst e8
  obtain ⟨WA, kWA, cWA, l9, e9, r9, h9, o9, -, -⟩ := open_wass f9
  subst e9
  obtain ⟨DA, kDA, cDA, l10, e10, r10, h10, o10, -, -⟩ := open_intl f10
  subst e10
  obtain ⟨z11, e11, -, b11⟩ := DataW.trod_int Tryz.underlying23 f11
  injection e11 with e11
  subst e11
  obtain ⟨z11, rfl, c11⟩ := nat_u64 b11
  exact ⟨⟨⟨z0, z1, z2, ep3, ms3, ep4, ms4, l5, l6.map (·.x), l7.map (·.x), l8, l9, l10, z11⟩, MA, cMA, NA, cNA, CA, cCA, OA, cOA, IA, cIA, SA, cSA, WA, cWA, DA, cDA, l6, l7⟩, by unfold MM.cs; simp only [List.length_map, h3, h4, h5, h6, h7, h8, h9, h10], ⟨by show Reads w w.heap.size 2 MA ms3.length (mcells ms3); rw [h3]; exact r3, by show Reads w w.heap.size 2 NA ms4.length (mcells ms4); rw [h4]; exact r4, by show Reads w w.heap.size 1 CA l5.length (l5.map iv); rw [h5]; exact r5, by show Reads w w.heap.size 7 OA (l6.map (·.x)).length (l6.flatMap omCs); rw [List.length_map, h6]; exact r6, by show Reads w w.heap.size 9 IA (l7.map (·.x)).length (l7.flatMap imCs); rw [List.length_map, h7]; exact r7, by show Reads w w.heap.size 5 SA l8.length (l8.flatMap sesL); rw [h8]; exact r8, by show Reads w w.heap.size 4 WA l9.length (l9.flatMap wasL); rw [h9]; exact r9, by show Reads w w.heap.size 1 DA l10.length (l10.map iv); rw [h10]; exact r10, rfl, rfl, fun o ho => (o6 o ho).2, fun o ho => (o7 o ho).2⟩, ⟨b0, b1, b2, b3, o3, b4, o4, o5, fun y hy => by obtain ⟨o, ho, rfl⟩ := List.mem_map.1 hy; exact (o6 o ho).1, fun y hy => by obtain ⟨o, ho, rfl⟩ := List.mem_map.1 hy; exact (o7 o ho).1, o8, o9, o10, c11⟩⟩
end
end Go.Proofs.YthgiafjiemiifaaGreat
end
section
namespace Go.Proofs.YthgiafjiemiifaaGreat
open Go.RowKit Go.ChangeShapes
set_option linter.unusedVariables false
theorem bulk_lits {H : Type} (k : IntKind) (zs : List Int) : Rows.uptoBulkAll (lits (H := H) k zs) = zs.length := by
  unfold lits
  induction zs with
  | nil => simp [Rows.uptoBulkAll]
  | cons x a ih => simp only [List.map_cons, Rows.uptoBulkAll, Rows.uptoBulk, ih, List.length_cons]; omega
theorem ints_small {H : Type} {enc : TypeId × Value → H} {P : Program} {t e : TypeId} {k : IntKind} {w : World} {base : Nat} {sp : Nat → Bool} {held : Bool} {A : Option Addr} {len cap : Nat} {d : DataW H} {ps : List MemPlace}
    (ht : P.underlying t = some (.slice e)) (he : P.underlying e = some (.int k)) (hc : P.cellsOf e = 1) (h : DataW.Trod enc P w base sp held t (.slice A len cap) d ps)
    (hsz : Rows.uptoBulk d ≤ 1048576) : len ≤ 1048576 := by
  obtain ⟨fuel, hf⟩ := h
  rcases open_ints ht he hc hf with ⟨hcs, _⟩ | ⟨x, l, c, zs, hcs, _, hl, hm, hz, hx, hcell, hwz⟩
  · simp [Value.cells] at hcs
    obtain ⟨rfl, rfl, rfl⟩ := hcs
    omega
  · simp [Value.cells] at hcs
    obtain ⟨rfl, rfl, rfl⟩ := hcs
    have hz' : len ≤ zs.length := by
      have h1 : zs.length = if sp x.block = true then cap else len := by simpa using hz
      rw [h1]; split <;> omega
    have hd : d = .slice (lits k (zs.take len)) (lits k (zs.drop len)) := congrArg Prod.fst hx
    subst hd
    rw [Rows.uptoBulk, bulk_lits, bulk_lits, List.length_take, List.length_drop] at hsz
    omega
end Go.Proofs.YthgiafjiemiifaaGreat
end
