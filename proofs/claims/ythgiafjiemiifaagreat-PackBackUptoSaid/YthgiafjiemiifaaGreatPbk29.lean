/-
  THE PROGRAM'S READER: a state. (printed by gen_par16.py). (joined out of PaR16 by shake.py)
-/
import Derived.Test.YthgiafjiemiifaaGreatPbk27
import Derived.Test.YthgiafjiemiifaaGreatPbk28
section
namespace Go.Proofs.YthgiafjiemiifaaGreat
open Go.RowKit OctMath
set_option linter.unusedVariables false
theorem Tryz.sizeMet : (Tryz.prog.info? 53).map (·.size) = some 14 := by kernel_rfl
/-- Rows of the elements of a list. -/
structure SubL (lo : Nat) (l : List (Option Addr × Nat × List Int)) (w : World) : Prop where
  all : ∀ m ∈ l, Lst lo 1 m.1 m.2.1 m.2.2.length (m.2.2.map iv) w
def ApL (y : Nat) (l : List (Option Addr × Nat × List Int)) : Prop := ∀ m ∈ l, Apart y m.2.2.length m.1
variable {lo lo' : Nat} {l : List (Option Addr × Nat × List Int)} {w w' : World}
theorem SubL.apart_lo (h : SubL lo l w) {y : Nat} (hy : y < lo) : ApL y l := fun m hm => (h.all m hm).apart_lo hy
theorem SubL.apart_hi (h : SubL lo l w) {y : Nat} (hy : w.heap.size ≤ y) : ApL y l := fun m hm => (h.all m hm).apart_hi hy
theorem SubL.mono (h : SubL lo l w) (hl : lo' ≤ lo) : SubL lo' l w := ⟨fun m hm => (h.all m hm).mono hl⟩
theorem SubL.keep (h : SubL lo l w) {g : Nat} (hk : Keep (Not g) w w') (hg : g < lo) : SubL lo l w' := ⟨fun m hm => (h.all m hm).keep hk hg⟩
theorem SubL.alloc (h : SubL lo l w) (o : Obj) : SubL lo l (w.alloc o) := ⟨fun m hm => (h.all m hm).alloc o⟩
theorem SubL.only (h : SubL lo l w) {y : Nat} (ho : Only y w w') (ha : ApL y l) : SubL lo l w' := ⟨fun m hm => (h.all m hm).only ho (ha m hm)⟩
def OM.row (m : OM) : Option Addr × Nat × List Int := (m.A, m.c, m.x.nodes)
def IM.row (m : IM) : Option Addr × Nat × List Int := (m.A, m.c, m.x.obj.nodes)
theorem sub_objs {ms : List OM} (h : ∀ m ∈ ms, ObjOk m.x ∧ Lst lo 1 m.A m.c m.x.nodes.length (m.x.nodes.map iv) w) : SubL lo (ms.map OM.row) w := ⟨fun y hy => by obtain ⟨m, hm, rfl⟩ := List.mem_map.1 hy; exact (h m hm).2⟩
theorem sub_ints {ms : List IM} (h : ∀ m ∈ ms, InteOk m.x ∧ Lst lo 1 m.A m.c m.x.obj.nodes.length (m.x.obj.nodes.map iv) w) : SubL lo (ms.map IM.row) w := ⟨fun y hy => by obtain ⟨m, hm, rfl⟩ := List.mem_map.1 hy; exact (h m hm).2⟩
theorem obj_oks {ms : List OM} {xs : List ObjT} (h : ∀ m ∈ ms, ObjOk m.x) (e : ms.map (·.x) = xs) : ∀ y ∈ xs, ObjOk y := fun y hy => by rw [← e] at hy; obtain ⟨m, hm, rfl⟩ := List.mem_map.1 hy; exact h m hm
theorem int_oks {ms : List IM} {xs : List IntT} (h : ∀ m ∈ ms, InteOk m.x) (e : ms.map (·.x) = xs) : ∀ y ∈ xs, InteOk y := fun y hy => by rw [← e] at hy; obtain ⟨m, hm, rfl⟩ := List.mem_map.1 hy; exact h m hm
/-- A state in memory: which rows hold it. -/
structure MM where
  x : MetT
  MA : Option Addr
  mc : Nat
  NA : Option Addr
  nc : Nat
  CA : Option Addr
  cc : Nat
  OA : Option Addr
  oc : Nat
  IA : Option Addr
  ic : Nat
  SA : Option Addr
  sc : Nat
  WA : Option Addr
  wc : Nat
  DA : Option Addr
  dc : Nat
  os : List OM
  is : List IM
def MM.cs (m : MM) : Array Value := #[.int .i64 m.x.k, .int .i64 m.x.n, .int .i64 m.x.groups, .int .u64 (m.x.mep : Int), .slice m.MA m.x.mem.length m.mc, .int .u64 (m.x.nep : Int), .slice m.NA m.x.nem.length m.nc, .slice m.CA m.x.cut.length m.cc, .slice m.OA m.x.objs.length m.oc, .slice m.IA m.x.ints.length m.ic, .slice m.SA m.x.sess.length m.sc, .slice m.WA m.x.wass.length m.wc, .slice m.DA m.x.down.length m.dc, .int .u64 (m.x.last : Int)]
structure MetIn (lo : Nat) (m : MM) (w : World) : Prop where
  map : Lst lo 2 m.MA m.mc m.x.mem.length (mcells m.x.mem) w
  next : Lst lo 2 m.NA m.nc m.x.nem.length (mcells m.x.nem) w
  cut : Lst lo 1 m.CA m.cc m.x.cut.length (m.x.cut.map iv) w
  objs : Lst lo 7 m.OA m.oc m.os.length (m.os.flatMap omCs) w
  ints : Lst lo 9 m.IA m.ic m.is.length (m.is.flatMap imCs) w
  sess : Lst lo 5 m.SA m.sc m.x.sess.length (m.x.sess.flatMap sesL) w
  wass : Lst lo 4 m.WA m.wc m.x.wass.length (m.x.wass.flatMap wasL) w
  down : Lst lo 1 m.DA m.dc m.x.down.length (m.x.down.map iv) w
  os : m.os.map (·.x) = m.x.objs
  is : m.is.map (·.x) = m.x.ints
  oss : SubL lo (m.os.map OM.row) w
  iss : SubL lo (m.is.map IM.row) w
def vMet (lo : Nat) (x : MetT) (w : World) (v : Value) : Prop := ∃ m : MM, m.x = x ∧ v = .agg m.cs ∧ MetIn lo m w ∧ MetOk x
set_option maxRecDepth 100000 in
set_option maxHeartbeats 4000000 in
theorem pg_meta (g : Nat) (A : Option Addr) (n cap : Nat) (bs : List Nat) (p : Nat) (w : World) (hP : Hid (PG g A n cap bs p w)) :
    Calls Tryz.prog 28 #[.pointer (some ⟨g, 0, none⟩)] w (RetR (rMet bs p) (vMet w.heap.size) g A n cap bs w) := by
  have HR := Lib.hid (show rMet bs p = ((rInt bs).bind fun x1 => (rInt bs).bind fun x2 => (rInt bs).bind fun x3 => (rMap bs).bind fun x4 => (rMap bs).bind fun x5 => (rList bs (rInt bs)).bind fun x6 => (rList bs (rObj bs)).bind fun x7 => (rList bs (rIntent bs)).bind fun x8 => (rList bs (rSes bs)).bind fun x9 => (rList bs (rWas bs)).bind fun x10 => (rList bs (rInt bs)).bind fun x11 => (rNum bs).bind fun x12 => Rd.pure (⟨x1, x2, x3, x4.1, x4.2, x5.1, x5.2, x6, x7, x8, x9, x10, x11, x12⟩ : MetT)) p from rfl)
  obtain ⟨w0, ew0⟩ : ∃ w0, (w.alloc (.cells #[.pointer (some ⟨g, 0, none⟩)] 75)).alloc (.cells #[.int .i64 0, .int .i64 0, .int .i64 0, .int .u64 0, .slice none 0 0, .int .u64 0, .slice none 0 0, .slice none 0 0, .slice none 0 0, .slice none 0 0, .slice none 0 0, .slice none 0 0, .slice none 0 0, .int .u64 0] 53) = w0 := ⟨_, rfl⟩
  have hs := ((RS.start hP.out).alloc (.cells #[.pointer (some ⟨g, 0, none⟩)] 75)).alloc (.cells #[.int .i64 0, .int .i64 0, .int .i64 0, .int .u64 0, .slice none 0 0, .int .u64 0, .slice none 0 0, .slice none 0 0, .slice none 0 0, .slice none 0 0, .slice none 0 0, .slice none 0 0, .slice none 0 0, .int .u64 0] 53)
  have hx : Blk ((w.alloc (.cells #[.pointer (some ⟨g, 0, none⟩)] 75)).alloc (.cells #[.int .i64 0, .int .i64 0, .int .i64 0, .int .u64 0, .slice none 0 0, .int .u64 0, .slice none 0 0, .slice none 0 0, .slice none 0 0, .slice none 0 0, .slice none 0 0, .slice none 0 0, .slice none 0 0, .int .u64 0] 53)) (w.heap.size + 1) 53 #[.int .i64 0, .int .i64 0, .int .i64 0, .int .u64 0, .slice none 0 0, .int .u64 0, .slice none 0 0, .slice none 0 0, .slice none 0 0, .slice none 0 0, .slice none 0 0, .slice none 0 0, .slice none 0 0, .int .u64 0] := by have := Blk.new (w.alloc (.cells #[.pointer (some ⟨g, 0, none⟩)] 75)) 53 #[.int .i64 0, .int .i64 0, .int .i64 0, .int .u64 0, .slice none 0 0, .int .u64 0, .slice none 0 0, .slice none 0 0, .slice none 0 0, .slice none 0 0, .slice none 0 0, .slice none 0 0, .slice none 0 0, .int .u64 0]; simpa using this
  have hbb := (Blk.new w 75 #[.pointer (some ⟨g, 0, none⟩)]).alloc (.cells #[.int .i64 0, .int .i64 0, .int .i64 0, .int .u64 0, .slice none 0 0, .int .u64 0, .slice none 0 0, .slice none 0 0, .slice none 0 0, .slice none 0 0, .slice none 0 0, .slice none 0 0, .slice none 0 0, .int .u64 0] 53)
  have hbg := Lib.hid (Nat.ne_of_gt hP.out.blk.lt)
  rw [ew0] at hs hx hbb
  have HB := Lib.hid hbb
  have cb := hbb.cell 0
  clear hbb
  have HS := Lib.hid hs
  have HX := Lib.hid hx
  have HG := Lib.hid hP.out.blk.lt
  clear hs hx
  go_enter Tryz.func28, Tryz.ntmps28
  go_wp2_with fail
  clear ew0 cb
  refine (pg_int g A n cap bs p _ (Lib.hid HS.out.pg)).mono ?_
  cases h1 : rInt bs p with
  | none =>
    rw [Rd.bind_none h1] at HR
    rintro e w1 ⟨rfl, hk⟩
    refine ⟨rfl, ?_⟩
    rw [HR.out]
    exact RetR.none_ (HS.out.kp.trans hk)
  | some x =>
    obtain ⟨x1, q1⟩ := x
    rw [Rd.bind_some h1] at HR
    rintro e w1 ⟨v, rfl, ⟨rfl, b1⟩, hp, hk⟩
    have HB := Lib.hid (hk.notBlk HB.out hbg.out)
    have cb := HB.out.cell 0
    have HX := Lib.hid (hk.notBlk HX.out (by have := HG.out; omega))
    have HS := Lib.hid (HS.out.read hp hk)
    clear hp hk
    have HXY := Lib.hid HX.out.lt
    go_wp2_with (refine wpl_store_blk rfl 53 (.tmp 3) (.tmp 6) rfl w1.heap.size 53 #[.int .i64 0, .int .i64 0, .int .i64 0, .int .u64 0, .slice none 0 0, .int .u64 0, .slice none 0 0, .slice none 0 0, .slice none 0 0, .slice none 0 0, .slice none 0 0, .slice none 0 0, .slice none 0 0, .int .u64 0] #[.int .i64 x1, .int .i64 0, .int .i64 0, .int .u64 0, .slice none 0 0, .int .u64 0, .slice none 0 0, .slice none 0 0, .slice none 0 0, .slice none 0 0, .slice none 0 0, .slice none 0 0, .slice none 0 0, .int .u64 0] rfl rfl (Blk.new w1 _ _) rfl Tryz.sizeMet rfl ?_; intro wa hB hO; have cb := (hO.out.blk (HB.out.alloc _) (by have := HXY.out; omega)).cell 0)
    have HB := Lib.hid (hO.out.blk (HB.out.alloc _) (by have := HXY.out; omega))
    have HX := Lib.hid (hO.out.blk (HX.out.alloc _) (Nat.ne_of_lt HXY.out))
    have HS := Lib.hid ((HS.out.alloc _).only hP.out (by have := HXY.out; omega) hO.out)
    have HY := Lib.hid hB.out
    clear hB hO
    refine (pg_int g A n cap bs q1 _ (Lib.hid HS.out.pg)).mono ?_
    cases h2 : rInt bs q1 with
    | none =>
      rw [Rd.bind_none h2] at HR
      rintro e w2 ⟨rfl, hk⟩
      refine ⟨rfl, ?_⟩
      rw [HR.out]
      exact RetR.none_ (HS.out.kp.trans hk)
    | some x =>
      obtain ⟨x2, q2⟩ := x
      rw [Rd.bind_some h2] at HR
      rintro e w2 ⟨v, rfl, ⟨rfl, b2⟩, hp, hk⟩
      have HB := Lib.hid (hk.notBlk HB.out hbg.out)
      have cb := HB.out.cell 0
      have HX := Lib.hid (hk.notBlk HX.out (by have := HG.out; omega))
      have HY := Lib.hid (hk.notBlk HY.out (by have := HG.out; have := HXY.out; omega))
      have HS := Lib.hid (HS.out.read hp hk)
      clear hp hk
      have cy0 := HY.out.cell 1
      have fy := HY.out.frozen
      go_wp2_with fail
      obtain ⟨v2, ew⟩ : ∃ v2, w2.setCell ⟨w1.heap.size, 1, none⟩ (.int .i64 x2) = v2 := ⟨_, rfl⟩
      have hO := (Only.set_ w2 w1.heap.size 1 (.int .i64 x2))
      have hB : Blk (w2.setCell ⟨w1.heap.size, 1, none⟩ (.int .i64 x2)) w1.heap.size 53 #[.int .i64 x1, .int .i64 x2, .int .i64 0, .int .u64 0, .slice none 0 0, .int .u64 0, .slice none 0 0, .slice none 0 0, .slice none 0 0, .slice none 0 0, .slice none 0 0, .slice none 0 0, .slice none 0 0, .int .u64 0] := by have := (HY.out.set_ 1 (.int .i64 x2)); simpa using this
      rw [ew] at hO hB ⊢
      have HB := Lib.hid (hO.blk HB.out (by have := HXY.out; omega))
      have HX := Lib.hid (hO.blk HX.out (Nat.ne_of_lt HXY.out))
      have HS := Lib.hid (HS.out.only hP.out (by have := HXY.out; omega) hO)
      have HY := Lib.hid hB
      clear ew hO hB fy cy0
      refine (pg_int g A n cap bs q2 _ (Lib.hid HS.out.pg)).mono ?_
      cases h3 : rInt bs q2 with
      | none =>
        rw [Rd.bind_none h3] at HR
        rintro e w3 ⟨rfl, hk⟩
        refine ⟨rfl, ?_⟩
        rw [HR.out]
        exact RetR.none_ (HS.out.kp.trans hk)
      | some x =>
        obtain ⟨x3, q3⟩ := x
        rw [Rd.bind_some h3] at HR
        rintro e w3 ⟨v, rfl, ⟨rfl, b3⟩, hp, hk⟩
        have HB := Lib.hid (hk.notBlk HB.out hbg.out)
        have cb := HB.out.cell 0
        have HX := Lib.hid (hk.notBlk HX.out (by have := HG.out; omega))
        have HY := Lib.hid (hk.notBlk HY.out (by have := HG.out; have := HXY.out; omega))
        have HS := Lib.hid (HS.out.read hp hk)
        clear hp hk
        have cy0 := HY.out.cell 2
        have fy := HY.out.frozen
        go_wp2_with fail
        obtain ⟨v3, ew⟩ : ∃ v3, w3.setCell ⟨w1.heap.size, 2, none⟩ (.int .i64 x3) = v3 := ⟨_, rfl⟩
        have hO := (Only.set_ w3 w1.heap.size 2 (.int .i64 x3))
        have hB : Blk (w3.setCell ⟨w1.heap.size, 2, none⟩ (.int .i64 x3)) w1.heap.size 53 #[.int .i64 x1, .int .i64 x2, .int .i64 x3, .int .u64 0, .slice none 0 0, .int .u64 0, .slice none 0 0, .slice none 0 0, .slice none 0 0, .slice none 0 0, .slice none 0 0, .slice none 0 0, .slice none 0 0, .int .u64 0] := by have := (HY.out.set_ 2 (.int .i64 x3)); simpa using this
        rw [ew] at hO hB ⊢
        have HB := Lib.hid (hO.blk HB.out (by have := HXY.out; omega))
        have HX := Lib.hid (hO.blk HX.out (Nat.ne_of_lt HXY.out))
        have HS := Lib.hid (HS.out.only hP.out (by have := HXY.out; omega) hO)
        have HY := Lib.hid hB
        clear ew hO hB fy cy0
        refine (pg_map g A n cap bs q3 _ (Lib.hid HS.out.pg)).mono ?_
        cases h4 : rMap bs q3 with
        | none =>
          rw [Rd.bind_none h4] at HR
          rintro e w4 ⟨rfl, hk⟩
          refine ⟨rfl, ?_⟩
          rw [HR.out]
          exact RetR.none_ (HS.out.kp.trans hk)
        | some x =>
          obtain ⟨x4, q4⟩ := x
          rw [Rd.bind_some h4] at HR
          rintro e w4 ⟨v, rfl, ⟨A4, c4, rfl, l4, b4⟩, hp, hk⟩
          have axL4 := Lib.hid (l4.apart_lo HX.out.lt)
          have ayL4 := Lib.hid (l4.apart_lo HY.out.lt)
          have L4 := Lib.hid (l4.mono HS.out.kp.size)
          clear l4
          have HB := Lib.hid (hk.notBlk HB.out hbg.out)
          have cb := HB.out.cell 0
          have HX := Lib.hid (hk.notBlk HX.out (by have := HG.out; omega))
          have HY := Lib.hid (hk.notBlk HY.out (by have := HG.out; have := HXY.out; omega))
          have HS := Lib.hid (HS.out.read hp hk)
          clear hp hk
          have cy0 := HY.out.cell 3
          have cy1 := HY.out.cell 4
          have fy := HY.out.frozen
          go_wp2_with fail
          obtain ⟨v4, ew⟩ : ∃ v4, (w4.setCell ⟨w1.heap.size, 3, none⟩ (.int .u64 (x4.1 : Int))).setCell ⟨w1.heap.size, 4, none⟩ (.slice A4 x4.2.length c4) = v4 := ⟨_, rfl⟩
          have hO := ((Only.set_ w4 w1.heap.size 3 (.int .u64 (x4.1 : Int))).trans (Only.set_ (w4.setCell ⟨w1.heap.size, 3, none⟩ (.int .u64 (x4.1 : Int))) w1.heap.size 4 (.slice A4 x4.2.length c4)))
          have hB : Blk ((w4.setCell ⟨w1.heap.size, 3, none⟩ (.int .u64 (x4.1 : Int))).setCell ⟨w1.heap.size, 4, none⟩ (.slice A4 x4.2.length c4)) w1.heap.size 53 #[.int .i64 x1, .int .i64 x2, .int .i64 x3, .int .u64 (x4.1 : Int), .slice A4 x4.2.length c4, .int .u64 0, .slice none 0 0, .slice none 0 0, .slice none 0 0, .slice none 0 0, .slice none 0 0, .slice none 0 0, .slice none 0 0, .int .u64 0] := by have := ((HY.out.set_ 3 (.int .u64 (x4.1 : Int))).set_ 4 (.slice A4 x4.2.length c4)); simpa using this
          rw [ew] at hO hB ⊢
          have L4 := Lib.hid (L4.out.only hO ayL4.out)
          have HB := Lib.hid (hO.blk HB.out (by have := HXY.out; omega))
          have HX := Lib.hid (hO.blk HX.out (Nat.ne_of_lt HXY.out))
          have HS := Lib.hid (HS.out.only hP.out (by have := HXY.out; omega) hO)
          have HY := Lib.hid hB
          clear ew hO hB fy cy0 cy1
          refine (pg_map g A n cap bs q4 _ (Lib.hid HS.out.pg)).mono ?_
          cases h5 : rMap bs q4 with
          | none =>
            rw [Rd.bind_none h5] at HR
            rintro e w5 ⟨rfl, hk⟩
            refine ⟨rfl, ?_⟩
            rw [HR.out]
            exact RetR.none_ (HS.out.kp.trans hk)
          | some x =>
            obtain ⟨x5, q5⟩ := x
            rw [Rd.bind_some h5] at HR
            rintro e w5 ⟨v, rfl, ⟨A5, c5, rfl, l5, b5⟩, hp, hk⟩
            have axL5 := Lib.hid (l5.apart_lo HX.out.lt)
            have ayL5 := Lib.hid (l5.apart_lo HY.out.lt)
            have L5 := Lib.hid (l5.mono HS.out.kp.size)
            clear l5
            have L4 := Lib.hid (L4.out.keep hk HG.out)
            have HB := Lib.hid (hk.notBlk HB.out hbg.out)
            have cb := HB.out.cell 0
            have HX := Lib.hid (hk.notBlk HX.out (by have := HG.out; omega))
            have HY := Lib.hid (hk.notBlk HY.out (by have := HG.out; have := HXY.out; omega))
            have HS := Lib.hid (HS.out.read hp hk)
            clear hp hk
            have cy0 := HY.out.cell 5
            have cy1 := HY.out.cell 6
            have fy := HY.out.frozen
            go_wp2_with fail
            obtain ⟨v5, ew⟩ : ∃ v5, (w5.setCell ⟨w1.heap.size, 5, none⟩ (.int .u64 (x5.1 : Int))).setCell ⟨w1.heap.size, 6, none⟩ (.slice A5 x5.2.length c5) = v5 := ⟨_, rfl⟩
            have hO := ((Only.set_ w5 w1.heap.size 5 (.int .u64 (x5.1 : Int))).trans (Only.set_ (w5.setCell ⟨w1.heap.size, 5, none⟩ (.int .u64 (x5.1 : Int))) w1.heap.size 6 (.slice A5 x5.2.length c5)))
            have hB : Blk ((w5.setCell ⟨w1.heap.size, 5, none⟩ (.int .u64 (x5.1 : Int))).setCell ⟨w1.heap.size, 6, none⟩ (.slice A5 x5.2.length c5)) w1.heap.size 53 #[.int .i64 x1, .int .i64 x2, .int .i64 x3, .int .u64 (x4.1 : Int), .slice A4 x4.2.length c4, .int .u64 (x5.1 : Int), .slice A5 x5.2.length c5, .slice none 0 0, .slice none 0 0, .slice none 0 0, .slice none 0 0, .slice none 0 0, .slice none 0 0, .int .u64 0] := by have := ((HY.out.set_ 5 (.int .u64 (x5.1 : Int))).set_ 6 (.slice A5 x5.2.length c5)); simpa using this
            rw [ew] at hO hB ⊢
            have L4 := Lib.hid (L4.out.only hO ayL4.out)
            have L5 := Lib.hid (L5.out.only hO ayL5.out)
            have HB := Lib.hid (hO.blk HB.out (by have := HXY.out; omega))
            have HX := Lib.hid (hO.blk HX.out (Nat.ne_of_lt HXY.out))
            have HS := Lib.hid (HS.out.only hP.out (by have := HXY.out; omega) hO)
            have HY := Lib.hid hB
            clear ew hO hB fy cy0 cy1
            refine (pg_ints g A n cap bs q5 _ (Lib.hid HS.out.pg)).mono ?_
            cases h6 : rList bs (rInt bs) q5 with
            | none =>
              rw [Rd.bind_none h6] at HR
              rintro e w6 ⟨rfl, hk⟩
              refine ⟨rfl, ?_⟩
              rw [HR.out]
              exact RetR.none_ (HS.out.kp.trans hk)
            | some x =>
              obtain ⟨x6, q6⟩ := x
              rw [Rd.bind_some h6] at HR
              rintro e w6 ⟨v, rfl, ⟨A6, c6, rfl, l6, b6⟩, hp, hk⟩
              have axL6 := Lib.hid (l6.apart_lo HX.out.lt)
              have ayL6 := Lib.hid (l6.apart_lo HY.out.lt)
              have L6 := Lib.hid (l6.mono HS.out.kp.size)
              clear l6
              have L4 := Lib.hid (L4.out.keep hk HG.out)
              have L5 := Lib.hid (L5.out.keep hk HG.out)
              have HB := Lib.hid (hk.notBlk HB.out hbg.out)
              have cb := HB.out.cell 0
              have HX := Lib.hid (hk.notBlk HX.out (by have := HG.out; omega))
              have HY := Lib.hid (hk.notBlk HY.out (by have := HG.out; have := HXY.out; omega))
              have HS := Lib.hid (HS.out.read hp hk)
              clear hp hk
              have cy0 := HY.out.cell 7
              have fy := HY.out.frozen
              go_wp2_with fail
              obtain ⟨v6, ew⟩ : ∃ v6, w6.setCell ⟨w1.heap.size, 7, none⟩ (.slice A6 x6.length c6) = v6 := ⟨_, rfl⟩
              have hO := (Only.set_ w6 w1.heap.size 7 (.slice A6 x6.length c6))
              have hB : Blk (w6.setCell ⟨w1.heap.size, 7, none⟩ (.slice A6 x6.length c6)) w1.heap.size 53 #[.int .i64 x1, .int .i64 x2, .int .i64 x3, .int .u64 (x4.1 : Int), .slice A4 x4.2.length c4, .int .u64 (x5.1 : Int), .slice A5 x5.2.length c5, .slice A6 x6.length c6, .slice none 0 0, .slice none 0 0, .slice none 0 0, .slice none 0 0, .slice none 0 0, .int .u64 0] := by have := (HY.out.set_ 7 (.slice A6 x6.length c6)); simpa using this
              rw [ew] at hO hB ⊢
              have L4 := Lib.hid (L4.out.only hO ayL4.out)
              have L5 := Lib.hid (L5.out.only hO ayL5.out)
              have L6 := Lib.hid (L6.out.only hO ayL6.out)
              have HB := Lib.hid (hO.blk HB.out (by have := HXY.out; omega))
              have HX := Lib.hid (hO.blk HX.out (Nat.ne_of_lt HXY.out))
              have HS := Lib.hid (HS.out.only hP.out (by have := HXY.out; omega) hO)
              have HY := Lib.hid hB
              clear ew hO hB fy cy0
              refine (pg_objs g A n cap bs q6 _ (Lib.hid HS.out.pg)).mono ?_
              cases h7 : rList bs (rObj bs) q6 with
              | none =>
                rw [Rd.bind_none h7] at HR
                rintro e w7 ⟨rfl, hk⟩
                refine ⟨rfl, ?_⟩
                rw [HR.out]
                exact RetR.none_ (HS.out.kp.trans hk)
              | some x =>
                obtain ⟨x7, q7⟩ := x
                rw [Rd.bind_some h7] at HR
                rintro e w7 ⟨v, rfl, ⟨A7, c7, ms7, rfl, e7, l7, s7, b7⟩, hp, hk⟩
                have m7 := sub_objs s7
                have S7 := Lib.hid (fun m hm => (s7 m hm).1)
                have E7 := Lib.hid e7
                clear s7 e7
                have axL7 := Lib.hid (l7.apart_lo HX.out.lt)
                have ayL7 := Lib.hid (l7.apart_lo HY.out.lt)
                have L7 := Lib.hid (l7.mono HS.out.kp.size)
                clear l7
                have axM7 := Lib.hid (m7.apart_lo HX.out.lt)
                have ayM7 := Lib.hid (m7.apart_lo HY.out.lt)
                have M7 := Lib.hid (m7.mono HS.out.kp.size)
                clear m7
                have L4 := Lib.hid (L4.out.keep hk HG.out)
                have L5 := Lib.hid (L5.out.keep hk HG.out)
                have L6 := Lib.hid (L6.out.keep hk HG.out)
                have HB := Lib.hid (hk.notBlk HB.out hbg.out)
                have cb := HB.out.cell 0
                have HX := Lib.hid (hk.notBlk HX.out (by have := HG.out; omega))
                have HY := Lib.hid (hk.notBlk HY.out (by have := HG.out; have := HXY.out; omega))
                have HS := Lib.hid (HS.out.read hp hk)
                clear hp hk
                have cy0 := HY.out.cell 8
                have fy := HY.out.frozen
                go_wp2_with fail
                obtain ⟨v7, ew⟩ : ∃ v7, w7.setCell ⟨w1.heap.size, 8, none⟩ (.slice A7 x7.length c7) = v7 := ⟨_, rfl⟩
                have hO := (Only.set_ w7 w1.heap.size 8 (.slice A7 x7.length c7))
                have hB : Blk (w7.setCell ⟨w1.heap.size, 8, none⟩ (.slice A7 x7.length c7)) w1.heap.size 53 #[.int .i64 x1, .int .i64 x2, .int .i64 x3, .int .u64 (x4.1 : Int), .slice A4 x4.2.length c4, .int .u64 (x5.1 : Int), .slice A5 x5.2.length c5, .slice A6 x6.length c6, .slice A7 x7.length c7, .slice none 0 0, .slice none 0 0, .slice none 0 0, .slice none 0 0, .int .u64 0] := by have := (HY.out.set_ 8 (.slice A7 x7.length c7)); simpa using this
                rw [ew] at hO hB ⊢
                have L4 := Lib.hid (L4.out.only hO ayL4.out)
                have L5 := Lib.hid (L5.out.only hO ayL5.out)
                have L6 := Lib.hid (L6.out.only hO ayL6.out)
                have L7 := Lib.hid (L7.out.only hO ayL7.out)
                have M7 := Lib.hid (M7.out.only hO ayM7.out)
                have HB := Lib.hid (hO.blk HB.out (by have := HXY.out; omega))
                have HX := Lib.hid (hO.blk HX.out (Nat.ne_of_lt HXY.out))
                have HS := Lib.hid (HS.out.only hP.out (by have := HXY.out; omega) hO)
                have HY := Lib.hid hB
                clear ew hO hB fy cy0
                refine (pg_intents g A n cap bs q7 _ (Lib.hid HS.out.pg)).mono ?_
                cases h8 : rList bs (rIntent bs) q7 with
                | none =>
                  rw [Rd.bind_none h8] at HR
                  rintro e w8 ⟨rfl, hk⟩
                  refine ⟨rfl, ?_⟩
                  rw [HR.out]
                  exact RetR.none_ (HS.out.kp.trans hk)
                | some x =>
                  obtain ⟨x8, q8⟩ := x
                  rw [Rd.bind_some h8] at HR
                  rintro e w8 ⟨v, rfl, ⟨A8, c8, ms8, rfl, e8, l8, s8, b8⟩, hp, hk⟩
                  have m8 := sub_ints s8
                  have S8 := Lib.hid (fun m hm => (s8 m hm).1)
                  have E8 := Lib.hid e8
                  clear s8 e8
                  have axL8 := Lib.hid (l8.apart_lo HX.out.lt)
                  have ayL8 := Lib.hid (l8.apart_lo HY.out.lt)
                  have L8 := Lib.hid (l8.mono HS.out.kp.size)
                  clear l8
                  have axM8 := Lib.hid (m8.apart_lo HX.out.lt)
                  have ayM8 := Lib.hid (m8.apart_lo HY.out.lt)
                  have M8 := Lib.hid (m8.mono HS.out.kp.size)
                  clear m8
                  have L4 := Lib.hid (L4.out.keep hk HG.out)
                  have L5 := Lib.hid (L5.out.keep hk HG.out)
                  have L6 := Lib.hid (L6.out.keep hk HG.out)
                  have L7 := Lib.hid (L7.out.keep hk HG.out)
                  have M7 := Lib.hid (M7.out.keep hk HG.out)
                  have HB := Lib.hid (hk.notBlk HB.out hbg.out)
                  have cb := HB.out.cell 0
                  have HX := Lib.hid (hk.notBlk HX.out (by have := HG.out; omega))
                  have HY := Lib.hid (hk.notBlk HY.out (by have := HG.out; have := HXY.out; omega))
                  have HS := Lib.hid (HS.out.read hp hk)
                  clear hp hk
                  have cy0 := HY.out.cell 9
                  have fy := HY.out.frozen
                  go_wp2_with fail
                  obtain ⟨v8, ew⟩ : ∃ v8, w8.setCell ⟨w1.heap.size, 9, none⟩ (.slice A8 x8.length c8) = v8 := ⟨_, rfl⟩
                  have hO := (Only.set_ w8 w1.heap.size 9 (.slice A8 x8.length c8))
                  have hB : Blk (w8.setCell ⟨w1.heap.size, 9, none⟩ (.slice A8 x8.length c8)) w1.heap.size 53 #[.int .i64 x1, .int .i64 x2, .int .i64 x3, .int .u64 (x4.1 : Int), .slice A4 x4.2.length c4, .int .u64 (x5.1 : Int), .slice A5 x5.2.length c5, .slice A6 x6.length c6, .slice A7 x7.length c7, .slice A8 x8.length c8, .slice none 0 0, .slice none 0 0, .slice none 0 0, .int .u64 0] := by have := (HY.out.set_ 9 (.slice A8 x8.length c8)); simpa using this
                  rw [ew] at hO hB ⊢
                  have L4 := Lib.hid (L4.out.only hO ayL4.out)
                  have L5 := Lib.hid (L5.out.only hO ayL5.out)
                  have L6 := Lib.hid (L6.out.only hO ayL6.out)
                  have L7 := Lib.hid (L7.out.only hO ayL7.out)
                  have M7 := Lib.hid (M7.out.only hO ayM7.out)
                  have L8 := Lib.hid (L8.out.only hO ayL8.out)
                  have M8 := Lib.hid (M8.out.only hO ayM8.out)
                  have HB := Lib.hid (hO.blk HB.out (by have := HXY.out; omega))
                  have HX := Lib.hid (hO.blk HX.out (Nat.ne_of_lt HXY.out))
                  have HS := Lib.hid (HS.out.only hP.out (by have := HXY.out; omega) hO)
                  have HY := Lib.hid hB
                  clear ew hO hB fy cy0
                  refine (pg_sessions g A n cap bs q8 _ (Lib.hid HS.out.pg)).mono ?_
                  cases h9 : rList bs (rSes bs) q8 with
                  | none =>
                    rw [Rd.bind_none h9] at HR
                    rintro e w9 ⟨rfl, hk⟩
                    refine ⟨rfl, ?_⟩
                    rw [HR.out]
                    exact RetR.none_ (HS.out.kp.trans hk)
                  | some x =>
                    obtain ⟨x9, q9⟩ := x
                    rw [Rd.bind_some h9] at HR
                    rintro e w9 ⟨v, rfl, ⟨A9, c9, rfl, l9, b9⟩, hp, hk⟩
                    have axL9 := Lib.hid (l9.apart_lo HX.out.lt)
                    have ayL9 := Lib.hid (l9.apart_lo HY.out.lt)
                    have L9 := Lib.hid (l9.mono HS.out.kp.size)
                    clear l9
                    have L4 := Lib.hid (L4.out.keep hk HG.out)
                    have L5 := Lib.hid (L5.out.keep hk HG.out)
                    have L6 := Lib.hid (L6.out.keep hk HG.out)
                    have L7 := Lib.hid (L7.out.keep hk HG.out)
                    have M7 := Lib.hid (M7.out.keep hk HG.out)
                    have L8 := Lib.hid (L8.out.keep hk HG.out)
                    have M8 := Lib.hid (M8.out.keep hk HG.out)
                    have HB := Lib.hid (hk.notBlk HB.out hbg.out)
                    have cb := HB.out.cell 0
                    have HX := Lib.hid (hk.notBlk HX.out (by have := HG.out; omega))
                    have HY := Lib.hid (hk.notBlk HY.out (by have := HG.out; have := HXY.out; omega))
                    have HS := Lib.hid (HS.out.read hp hk)
                    clear hp hk
                    have cy0 := HY.out.cell 10
                    have fy := HY.out.frozen
                    go_wp2_with fail
                    obtain ⟨v9, ew⟩ : ∃ v9, w9.setCell ⟨w1.heap.size, 10, none⟩ (.slice A9 x9.length c9) = v9 := ⟨_, rfl⟩
                    have hO := (Only.set_ w9 w1.heap.size 10 (.slice A9 x9.length c9))
                    have hB : Blk (w9.setCell ⟨w1.heap.size, 10, none⟩ (.slice A9 x9.length c9)) w1.heap.size 53 #[.int .i64 x1, .int .i64 x2, .int .i64 x3, .int .u64 (x4.1 : Int), .slice A4 x4.2.length c4, .int .u64 (x5.1 : Int), .slice A5 x5.2.length c5, .slice A6 x6.length c6, .slice A7 x7.length c7, .slice A8 x8.length c8, .slice A9 x9.length c9, .slice none 0 0, .slice none 0 0, .int .u64 0] := by have := (HY.out.set_ 10 (.slice A9 x9.length c9)); simpa using this
                    rw [ew] at hO hB ⊢
                    have L4 := Lib.hid (L4.out.only hO ayL4.out)
                    have L5 := Lib.hid (L5.out.only hO ayL5.out)
                    have L6 := Lib.hid (L6.out.only hO ayL6.out)
                    have L7 := Lib.hid (L7.out.only hO ayL7.out)
                    have M7 := Lib.hid (M7.out.only hO ayM7.out)
                    have L8 := Lib.hid (L8.out.only hO ayL8.out)
                    have M8 := Lib.hid (M8.out.only hO ayM8.out)
                    have L9 := Lib.hid (L9.out.only hO ayL9.out)
                    have HB := Lib.hid (hO.blk HB.out (by have := HXY.out; omega))
                    have HX := Lib.hid (hO.blk HX.out (Nat.ne_of_lt HXY.out))
                    have HS := Lib.hid (HS.out.only hP.out (by have := HXY.out; omega) hO)
                    have HY := Lib.hid hB
                    clear ew hO hB fy cy0
                    refine (pg_wastes g A n cap bs q9 _ (Lib.hid HS.out.pg) w.heap.size HB hbg).mono ?_
                    cases h10 : rList bs (rWas bs) q9 with
                    | none =>
                      rw [Rd.bind_none h10] at HR
                      rintro e w10 ⟨rfl, hk⟩
                      refine ⟨rfl, ?_⟩
                      rw [HR.out]
                      exact RetR.none_ (HS.out.kp.trans hk)
                    | some x =>
                      obtain ⟨x10, q10⟩ := x
                      rw [Rd.bind_some h10] at HR
                      rintro e w10 ⟨v, rfl, ⟨A10, c10, rfl, l10, b10⟩, hp, hk⟩
                      have axL10 := Lib.hid (l10.apart_lo HX.out.lt)
                      have ayL10 := Lib.hid (l10.apart_lo HY.out.lt)
                      have L10 := Lib.hid (l10.mono HS.out.kp.size)
                      clear l10
                      have L4 := Lib.hid (L4.out.keep hk HG.out)
                      have L5 := Lib.hid (L5.out.keep hk HG.out)
                      have L6 := Lib.hid (L6.out.keep hk HG.out)
                      have L7 := Lib.hid (L7.out.keep hk HG.out)
                      have M7 := Lib.hid (M7.out.keep hk HG.out)
                      have L8 := Lib.hid (L8.out.keep hk HG.out)
                      have M8 := Lib.hid (M8.out.keep hk HG.out)
                      have L9 := Lib.hid (L9.out.keep hk HG.out)
                      have HB := Lib.hid (hk.notBlk HB.out hbg.out)
                      have cb := HB.out.cell 0
                      have HX := Lib.hid (hk.notBlk HX.out (by have := HG.out; omega))
                      have HY := Lib.hid (hk.notBlk HY.out (by have := HG.out; have := HXY.out; omega))
                      have HS := Lib.hid (HS.out.read hp hk)
                      clear hp hk
                      have cy0 := HY.out.cell 11
                      have fy := HY.out.frozen
                      go_wp2_with fail
                      obtain ⟨v10, ew⟩ : ∃ v10, w10.setCell ⟨w1.heap.size, 11, none⟩ (.slice A10 x10.length c10) = v10 := ⟨_, rfl⟩
                      have hO := (Only.set_ w10 w1.heap.size 11 (.slice A10 x10.length c10))
                      have hB : Blk (w10.setCell ⟨w1.heap.size, 11, none⟩ (.slice A10 x10.length c10)) w1.heap.size 53 #[.int .i64 x1, .int .i64 x2, .int .i64 x3, .int .u64 (x4.1 : Int), .slice A4 x4.2.length c4, .int .u64 (x5.1 : Int), .slice A5 x5.2.length c5, .slice A6 x6.length c6, .slice A7 x7.length c7, .slice A8 x8.length c8, .slice A9 x9.length c9, .slice A10 x10.length c10, .slice none 0 0, .int .u64 0] := by have := (HY.out.set_ 11 (.slice A10 x10.length c10)); simpa using this
                      rw [ew] at hO hB ⊢
                      have L4 := Lib.hid (L4.out.only hO ayL4.out)
                      have L5 := Lib.hid (L5.out.only hO ayL5.out)
                      have L6 := Lib.hid (L6.out.only hO ayL6.out)
                      have L7 := Lib.hid (L7.out.only hO ayL7.out)
                      have M7 := Lib.hid (M7.out.only hO ayM7.out)
                      have L8 := Lib.hid (L8.out.only hO ayL8.out)
                      have M8 := Lib.hid (M8.out.only hO ayM8.out)
                      have L9 := Lib.hid (L9.out.only hO ayL9.out)
                      have L10 := Lib.hid (L10.out.only hO ayL10.out)
                      have HB := Lib.hid (hO.blk HB.out (by have := HXY.out; omega))
                      have HX := Lib.hid (hO.blk HX.out (Nat.ne_of_lt HXY.out))
                      have HS := Lib.hid (HS.out.only hP.out (by have := HXY.out; omega) hO)
                      have HY := Lib.hid hB
                      clear ew hO hB fy cy0
                      refine (pg_ints g A n cap bs q10 _ (Lib.hid HS.out.pg)).mono ?_
                      cases h11 : rList bs (rInt bs) q10 with
                      | none =>
                        rw [Rd.bind_none h11] at HR
                        rintro e w11 ⟨rfl, hk⟩
                        refine ⟨rfl, ?_⟩
                        rw [HR.out]
                        exact RetR.none_ (HS.out.kp.trans hk)
                      | some x =>
                        obtain ⟨x11, q11⟩ := x
                        rw [Rd.bind_some h11] at HR
                        rintro e w11 ⟨v, rfl, ⟨A11, c11, rfl, l11, b11⟩, hp, hk⟩
                        have axL11 := Lib.hid (l11.apart_lo HX.out.lt)
                        have ayL11 := Lib.hid (l11.apart_lo HY.out.lt)
                        have L11 := Lib.hid (l11.mono HS.out.kp.size)
                        clear l11
                        have L4 := Lib.hid (L4.out.keep hk HG.out)
                        have L5 := Lib.hid (L5.out.keep hk HG.out)
                        have L6 := Lib.hid (L6.out.keep hk HG.out)
                        have L7 := Lib.hid (L7.out.keep hk HG.out)
                        have M7 := Lib.hid (M7.out.keep hk HG.out)
                        have L8 := Lib.hid (L8.out.keep hk HG.out)
                        have M8 := Lib.hid (M8.out.keep hk HG.out)
                        have L9 := Lib.hid (L9.out.keep hk HG.out)
                        have L10 := Lib.hid (L10.out.keep hk HG.out)
                        have HB := Lib.hid (hk.notBlk HB.out hbg.out)
                        have cb := HB.out.cell 0
                        have HX := Lib.hid (hk.notBlk HX.out (by have := HG.out; omega))
                        have HY := Lib.hid (hk.notBlk HY.out (by have := HG.out; have := HXY.out; omega))
                        have HS := Lib.hid (HS.out.read hp hk)
                        clear hp hk
                        have cy0 := HY.out.cell 12
                        have fy := HY.out.frozen
                        go_wp2_with fail
                        obtain ⟨v11, ew⟩ : ∃ v11, w11.setCell ⟨w1.heap.size, 12, none⟩ (.slice A11 x11.length c11) = v11 := ⟨_, rfl⟩
                        have hO := (Only.set_ w11 w1.heap.size 12 (.slice A11 x11.length c11))
                        have hB : Blk (w11.setCell ⟨w1.heap.size, 12, none⟩ (.slice A11 x11.length c11)) w1.heap.size 53 #[.int .i64 x1, .int .i64 x2, .int .i64 x3, .int .u64 (x4.1 : Int), .slice A4 x4.2.length c4, .int .u64 (x5.1 : Int), .slice A5 x5.2.length c5, .slice A6 x6.length c6, .slice A7 x7.length c7, .slice A8 x8.length c8, .slice A9 x9.length c9, .slice A10 x10.length c10, .slice A11 x11.length c11, .int .u64 0] := by have := (HY.out.set_ 12 (.slice A11 x11.length c11)); simpa using this
                        rw [ew] at hO hB ⊢
                        have L4 := Lib.hid (L4.out.only hO ayL4.out)
                        have L5 := Lib.hid (L5.out.only hO ayL5.out)
                        have L6 := Lib.hid (L6.out.only hO ayL6.out)
                        have L7 := Lib.hid (L7.out.only hO ayL7.out)
                        have M7 := Lib.hid (M7.out.only hO ayM7.out)
                        have L8 := Lib.hid (L8.out.only hO ayL8.out)
                        have M8 := Lib.hid (M8.out.only hO ayM8.out)
                        have L9 := Lib.hid (L9.out.only hO ayL9.out)
                        have L10 := Lib.hid (L10.out.only hO ayL10.out)
                        have L11 := Lib.hid (L11.out.only hO ayL11.out)
                        have HB := Lib.hid (hO.blk HB.out (by have := HXY.out; omega))
                        have HX := Lib.hid (hO.blk HX.out (Nat.ne_of_lt HXY.out))
                        have HS := Lib.hid (HS.out.only hP.out (by have := HXY.out; omega) hO)
                        have HY := Lib.hid hB
                        clear ew hO hB fy cy0
                        refine (pg_number g A n cap bs q11 _ (Lib.hid HS.out.pg)).mono ?_
                        cases h12 : rNum bs q11 with
                        | none =>
                          rw [Rd.bind_none h12] at HR
                          rintro e w12 ⟨rfl, hk⟩
                          refine ⟨rfl, ?_⟩
                          rw [HR.out]
                          exact RetR.none_ (HS.out.kp.trans hk)
                        | some x =>
                          obtain ⟨x12, q12⟩ := x
                          rw [Rd.bind_some h12] at HR
                          rintro e w12 ⟨v, rfl, ⟨rfl, b12⟩, hp, hk⟩
                          have L4 := Lib.hid (L4.out.keep hk HG.out)
                          have L5 := Lib.hid (L5.out.keep hk HG.out)
                          have L6 := Lib.hid (L6.out.keep hk HG.out)
                          have L7 := Lib.hid (L7.out.keep hk HG.out)
                          have M7 := Lib.hid (M7.out.keep hk HG.out)
                          have L8 := Lib.hid (L8.out.keep hk HG.out)
                          have M8 := Lib.hid (M8.out.keep hk HG.out)
                          have L9 := Lib.hid (L9.out.keep hk HG.out)
                          have L10 := Lib.hid (L10.out.keep hk HG.out)
                          have L11 := Lib.hid (L11.out.keep hk HG.out)
                          have HB := Lib.hid (hk.notBlk HB.out hbg.out)
                          have cb := HB.out.cell 0
                          have HX := Lib.hid (hk.notBlk HX.out (by have := HG.out; omega))
                          have HY := Lib.hid (hk.notBlk HY.out (by have := HG.out; have := HXY.out; omega))
                          have HS := Lib.hid (HS.out.read hp hk)
                          clear hp hk
                          have cy0 := HY.out.cell 13
                          have fy := HY.out.frozen
                          have hO := (Only.set_ w12 w1.heap.size 13 (.int .u64 (x12 : Int)))
                          have hB : Blk (w12.setCell ⟨w1.heap.size, 13, none⟩ (.int .u64 (x12 : Int))) w1.heap.size 53 #[.int .i64 x1, .int .i64 x2, .int .i64 x3, .int .u64 (x4.1 : Int), .slice A4 x4.2.length c4, .int .u64 (x5.1 : Int), .slice A5 x5.2.length c5, .slice A6 x6.length c6, .slice A7 x7.length c7, .slice A8 x8.length c8, .slice A9 x9.length c9, .slice A10 x10.length c10, .slice A11 x11.length c11, .int .u64 (x12 : Int)] := by have := (HY.out.set_ 13 (.int .u64 (x12 : Int))); simpa using this
                          have L4 := Lib.hid (L4.out.only hO ayL4.out)
                          have L5 := Lib.hid (L5.out.only hO ayL5.out)
                          have L6 := Lib.hid (L6.out.only hO ayL6.out)
                          have L7 := Lib.hid (L7.out.only hO ayL7.out)
                          have M7 := Lib.hid (M7.out.only hO ayM7.out)
                          have L8 := Lib.hid (L8.out.only hO ayL8.out)
                          have M8 := Lib.hid (M8.out.only hO ayM8.out)
                          have L9 := Lib.hid (L9.out.only hO ayL9.out)
                          have L10 := Lib.hid (L10.out.only hO ayL10.out)
                          have L11 := Lib.hid (L11.out.only hO ayL11.out)
                          have HB := Lib.hid (hO.blk HB.out (by have := HXY.out; omega))
                          have HX := Lib.hid (hO.blk HX.out (Nat.ne_of_lt HXY.out))
                          have HS := Lib.hid (HS.out.only hP.out (by have := HXY.out; omega) hO)
                          have HY := Lib.hid hB
                          clear hO hB
                          go_wp2_with (first | (refine wpl_load_blk rfl 53 (.tmp 3) rfl w1.heap.size 53 _ _ rfl HY.out Tryz.underlying53 rfl Tryz.sizeMet ?_) | (refine wpl_store_blk rfl 53 (.tmp 2) (.tmp 51) rfl (w.heap.size + 1) 53 _ #[.int .i64 x1, .int .i64 x2, .int .i64 x3, .int .u64 (x4.1 : Int), .slice A4 x4.2.length c4, .int .u64 (x5.1 : Int), .slice A5 x5.2.length c5, .slice A6 x6.length c6, .slice A7 x7.length c7, .slice A8 x8.length c8, .slice A9 x9.length c9, .slice A10 x10.length c10, .slice A11 x11.length c11, .int .u64 (x12 : Int)] rfl rfl HX.out rfl Tryz.sizeMet rfl ?_; intro wf hB hO))
                          have HS := Lib.hid (HS.out.only hP.out (by omega) hO.out)
                          have L4 := Lib.hid (L4.out.only hO.out axL4.out)
                          have L5 := Lib.hid (L5.out.only hO.out axL5.out)
                          have L6 := Lib.hid (L6.out.only hO.out axL6.out)
                          have L7 := Lib.hid (L7.out.only hO.out axL7.out)
                          have M7 := Lib.hid (M7.out.only hO.out axM7.out)
                          have L8 := Lib.hid (L8.out.only hO.out axL8.out)
                          have M8 := Lib.hid (M8.out.only hO.out axM8.out)
                          have L9 := Lib.hid (L9.out.only hO.out axL9.out)
                          have L10 := Lib.hid (L10.out.only hO.out axL10.out)
                          have L11 := Lib.hid (L11.out.only hO.out axL11.out)
                          refine bodyPost_ret (v := .agg #[.int .i64 x1, .int .i64 x2, .int .i64 x3, .int .u64 (x4.1 : Int), .slice A4 x4.2.length c4, .int .u64 (x5.1 : Int), .slice A5 x5.2.length c5, .slice A6 x6.length c6, .slice A7 x7.length c7, .slice A8 x8.length c8, .slice A9 x9.length c9, .slice A10 x10.length c10, .slice A11 x11.length c11, .int .u64 (x12 : Int)]) (res_c Tryz.results28 rfl (load_blk hB.out Tryz.underlying53 rfl Tryz.sizeMet)) rfl ?_
                          rw [HR.out]
                          exact RetR.some_ ⟨⟨⟨x1, x2, x3, x4.1, x4.2, x5.1, x5.2, x6, x7, x8, x9, x10, x11, x12⟩, A4, c4, A5, c5, A6, c6, A7, c7, A8, c8, A9, c9, A10, c10, A11, c11, ms7, ms8⟩, rfl, rfl, ⟨L4.out, L5.out, L6.out, L7.out, L8.out, L9.out, L10.out, L11.out, E7.out, E8.out, M7.out, M8.out⟩, ⟨b1, b2, b3, b4, b5, b6, ⟨obj_oks S7.out E7.out, b7⟩, ⟨int_oks S8.out E8.out, b8⟩, b9, b10, b11, b12⟩⟩ HS.out.pg HS.out.kp
end Go.Proofs.YthgiafjiemiifaaGreat
end
