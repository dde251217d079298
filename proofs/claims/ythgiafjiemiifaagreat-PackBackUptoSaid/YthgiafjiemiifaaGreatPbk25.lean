/-
  THE PROGRAM'S READER: objects, intents, sessions, wastes. (printed by gen_par6.py). (joined out of PaR12 by shake.py)
-/
import Derived.Test.YthgiafjiemiifaaGreatPbk14
import Derived.Test.YthgiafjiemiifaaGreatPbk24
section
namespace Go.Proofs.YthgiafjiemiifaaGreat
open Go.RowKit OctMath
set_option linter.unusedVariables false
theorem Tryz.sizeO : (Tryz.prog.info? 63).map (·.size) = some 7 := by kernel_rfl
theorem Tryz.sizeIn : (Tryz.prog.info? 65).map (·.size) = some 9 := by kernel_rfl
theorem Tryz.sizeSe : (Tryz.prog.info? 132).map (·.size) = some 5 := by kernel_rfl
theorem Tryz.sizeWa : (Tryz.prog.info? 136).map (·.size) = some 4 := by kernel_rfl
def objCs (x : ObjT) (A : Option Addr) (c : Nat) : Array Value := #[.string (strOf x.key), .int .u64 (x.version : Int), .int .i64 x.size, .int .u32 (x.sum : Int), .int .i64 x.group, .int .u64 (x.epoch : Int), .slice A x.nodes.length c]
def vObj (lo : Nat) (x : ObjT) (w : World) (v : Value) : Prop := ∃ A c, v = .agg (objCs x A c) ∧ Lst lo 1 A c x.nodes.length (x.nodes.map iv) w ∧ ObjOk x
set_option maxRecDepth 100000 in
set_option maxHeartbeats 4000000 in
theorem pg_object (g : Nat) (A : Option Addr) (n cap : Nat) (bs : List Nat) (p : Nat) (w : World) (hP : Hid (PG g A n cap bs p w)) :
    Calls Tryz.prog 57 #[.pointer (some ⟨g, 0, none⟩)] w (RetR (rObj bs p) (vObj w.heap.size) g A n cap bs w) := by
  have HR := Lib.hid (show rObj bs p = ((rText bs).bind fun x1 => (rNum bs).bind fun x2 => (rInt bs).bind fun x3 => (rWord bs).bind fun x4 => (rInt bs).bind fun x5 => (rNum bs).bind fun x6 => (rList bs (rInt bs)).bind fun x7 => Rd.pure ⟨x1, x2, x3, x4, x5, x6, x7⟩) p from rfl)
  obtain ⟨w0, ew0⟩ : ∃ w0, w.alloc (.cells #[.string ⟨#[]⟩, .int .u64 0, .int .i64 0, .int .u32 0, .int .i64 0, .int .u64 0, .slice none 0 0] 63) = w0 := ⟨_, rfl⟩
  have hs := (RS.start hP.out).alloc (.cells #[.string ⟨#[]⟩, .int .u64 0, .int .i64 0, .int .u32 0, .int .i64 0, .int .u64 0, .slice none 0 0] 63)
  have hx : Blk (w.alloc (.cells #[.string ⟨#[]⟩, .int .u64 0, .int .i64 0, .int .u32 0, .int .i64 0, .int .u64 0, .slice none 0 0] 63)) w.heap.size 63 #[.string ⟨#[]⟩, .int .u64 0, .int .i64 0, .int .u32 0, .int .i64 0, .int .u64 0, .slice none 0 0] := by have := Blk.new w 63 #[.string ⟨#[]⟩, .int .u64 0, .int .i64 0, .int .u32 0, .int .i64 0, .int .u64 0, .slice none 0 0]; simpa using this
  rw [ew0] at hs hx
  have HS := Lib.hid hs
  have HX := Lib.hid hx
  have HG := Lib.hid hP.out.blk.lt
  clear hs hx
  go_enter Tryz.func57, Tryz.ntmps57
  go_wp2_with fail
  clear ew0
  refine (pg_text g A n cap bs p _ (Lib.hid HS.out.pg)).mono ?_
  cases h1 : rText bs p with
  | none =>
    rw [Rd.bind_none h1] at HR
    rintro e w1 ⟨rfl, hk⟩
    refine ⟨rfl, ?_⟩
    rw [HR.out]
    exact RetR.none_ (HS.out.kp.trans hk)
  | some x =>
    obtain ⟨x1, q1⟩ := x
    rw [Rd.bind_some h1] at HR
    rintro e w1 ⟨v, rfl, ⟨rfl, b1⟩, hp, hk⟩
    have HX := Lib.hid (hk.notBlk HX.out (by have := HG.out; omega))
    have HS := Lib.hid (HS.out.read hp hk)
    clear hp hk
    have HXY := Lib.hid HX.out.lt
    go_wp2_with (refine wpl_store_blk rfl 63 (.tmp 3) (.tmp 6) rfl w1.heap.size 63 #[.string ⟨#[]⟩, .int .u64 0, .int .i64 0, .int .u32 0, .int .i64 0, .int .u64 0, .slice none 0 0] #[.string (strOf x1), .int .u64 0, .int .i64 0, .int .u32 0, .int .i64 0, .int .u64 0, .slice none 0 0] rfl rfl (Blk.new w1 _ _) rfl Tryz.sizeO rfl ?_; intro wa hB hO)
    have HX := Lib.hid (hO.out.blk (HX.out.alloc _) (Nat.ne_of_lt HXY.out))
    have HS := Lib.hid ((HS.out.alloc _).only hP.out (by have := HXY.out; omega) hO.out)
    have HY := Lib.hid hB.out
    clear hB hO
    refine (pg_number g A n cap bs q1 _ (Lib.hid HS.out.pg)).mono ?_
    cases h2 : rNum bs q1 with
    | none =>
      rw [Rd.bind_none h2] at HR
      rintro e w2 ⟨rfl, hk⟩
      refine ⟨rfl, ?_⟩
      rw [HR.out]
      exact RetR.none_ (HS.out.kp.trans hk)
    | some x =>
      obtain ⟨x2, q2⟩ := x
      rw [Rd.bind_some h2] at HR
      rintro e w2 ⟨v, rfl, ⟨rfl, b2⟩, hp, hk⟩
      have HX := Lib.hid (hk.notBlk HX.out (by have := HG.out; omega))
      have HY := Lib.hid (hk.notBlk HY.out (by have := HG.out; have := HXY.out; omega))
      have HS := Lib.hid (HS.out.read hp hk)
      clear hp hk
      have cy0 := HY.out.cell 1
      have fy := HY.out.frozen
      go_wp2_with fail
      obtain ⟨v2, ew⟩ : ∃ v2, w2.setCell ⟨w1.heap.size, 1, none⟩ (.int .u64 (x2 : Int)) = v2 := ⟨_, rfl⟩
      have hO := (Only.set_ w2 w1.heap.size 1 (.int .u64 (x2 : Int)))
      have hB : Blk (w2.setCell ⟨w1.heap.size, 1, none⟩ (.int .u64 (x2 : Int))) w1.heap.size 63 #[.string (strOf x1), .int .u64 (x2 : Int), .int .i64 0, .int .u32 0, .int .i64 0, .int .u64 0, .slice none 0 0] := by have := (HY.out.set_ 1 (.int .u64 (x2 : Int))); simpa using this
      rw [ew] at hO hB ⊢
      have HX := Lib.hid (hO.blk HX.out (Nat.ne_of_lt HXY.out))
      have HS := Lib.hid (HS.out.only hP.out (by have := HXY.out; omega) hO)
      have HY := Lib.hid hB
      clear ew hO hB fy cy0
      refine (pg_int g A n cap bs q2 _ (Lib.hid HS.out.pg)).mono ?_
      cases h3 : rInt bs q2 with
      | none =>
        rw [Rd.bind_none h3] at HR
        rintro e w3 ⟨rfl, hk⟩
        refine ⟨rfl, ?_⟩
        rw [HR.out]
        exact RetR.none_ (HS.out.kp.trans hk)
      | some x =>
        obtain ⟨x3, q3⟩ := x
        rw [Rd.bind_some h3] at HR
        rintro e w3 ⟨v, rfl, ⟨rfl, b3⟩, hp, hk⟩
        have HX := Lib.hid (hk.notBlk HX.out (by have := HG.out; omega))
        have HY := Lib.hid (hk.notBlk HY.out (by have := HG.out; have := HXY.out; omega))
        have HS := Lib.hid (HS.out.read hp hk)
        clear hp hk
        have cy0 := HY.out.cell 2
        have fy := HY.out.frozen
        go_wp2_with fail
        obtain ⟨v3, ew⟩ : ∃ v3, w3.setCell ⟨w1.heap.size, 2, none⟩ (.int .i64 x3) = v3 := ⟨_, rfl⟩
        have hO := (Only.set_ w3 w1.heap.size 2 (.int .i64 x3))
        have hB : Blk (w3.setCell ⟨w1.heap.size, 2, none⟩ (.int .i64 x3)) w1.heap.size 63 #[.string (strOf x1), .int .u64 (x2 : Int), .int .i64 x3, .int .u32 0, .int .i64 0, .int .u64 0, .slice none 0 0] := by have := (HY.out.set_ 2 (.int .i64 x3)); simpa using this
        rw [ew] at hO hB ⊢
        have HX := Lib.hid (hO.blk HX.out (Nat.ne_of_lt HXY.out))
        have HS := Lib.hid (HS.out.only hP.out (by have := HXY.out; omega) hO)
        have HY := Lib.hid hB
        clear ew hO hB fy cy0
        refine (pg_word g A n cap bs q3 _ (Lib.hid HS.out.pg)).mono ?_
        cases h4 : rWord bs q3 with
        | none =>
          rw [Rd.bind_none h4] at HR
          rintro e w4 ⟨rfl, hk⟩
          refine ⟨rfl, ?_⟩
          rw [HR.out]
          exact RetR.none_ (HS.out.kp.trans hk)
        | some x =>
          obtain ⟨x4, q4⟩ := x
          rw [Rd.bind_some h4] at HR
          rintro e w4 ⟨v, rfl, ⟨rfl, b4⟩, hp, hk⟩
          have HX := Lib.hid (hk.notBlk HX.out (by have := HG.out; omega))
          have HY := Lib.hid (hk.notBlk HY.out (by have := HG.out; have := HXY.out; omega))
          have HS := Lib.hid (HS.out.read hp hk)
          clear hp hk
          have cy0 := HY.out.cell 3
          have fy := HY.out.frozen
          go_wp2_with fail
          obtain ⟨v4, ew⟩ : ∃ v4, w4.setCell ⟨w1.heap.size, 3, none⟩ (.int .u32 (x4 : Int)) = v4 := ⟨_, rfl⟩
          have hO := (Only.set_ w4 w1.heap.size 3 (.int .u32 (x4 : Int)))
          have hB : Blk (w4.setCell ⟨w1.heap.size, 3, none⟩ (.int .u32 (x4 : Int))) w1.heap.size 63 #[.string (strOf x1), .int .u64 (x2 : Int), .int .i64 x3, .int .u32 (x4 : Int), .int .i64 0, .int .u64 0, .slice none 0 0] := by have := (HY.out.set_ 3 (.int .u32 (x4 : Int))); simpa using this
          rw [ew] at hO hB ⊢
          have HX := Lib.hid (hO.blk HX.out (Nat.ne_of_lt HXY.out))
          have HS := Lib.hid (HS.out.only hP.out (by have := HXY.out; omega) hO)
          have HY := Lib.hid hB
          clear ew hO hB fy cy0
          refine (pg_int g A n cap bs q4 _ (Lib.hid HS.out.pg)).mono ?_
          cases h5 : rInt bs q4 with
          | none =>
            rw [Rd.bind_none h5] at HR
            rintro e w5 ⟨rfl, hk⟩
            refine ⟨rfl, ?_⟩
            rw [HR.out]
            exact RetR.none_ (HS.out.kp.trans hk)
          | some x =>
            obtain ⟨x5, q5⟩ := x
            rw [Rd.bind_some h5] at HR
            rintro e w5 ⟨v, rfl, ⟨rfl, b5⟩, hp, hk⟩
            have HX := Lib.hid (hk.notBlk HX.out (by have := HG.out; omega))
            have HY := Lib.hid (hk.notBlk HY.out (by have := HG.out; have := HXY.out; omega))
            have HS := Lib.hid (HS.out.read hp hk)
            clear hp hk
            have cy0 := HY.out.cell 4
            have fy := HY.out.frozen
            go_wp2_with fail
            obtain ⟨v5, ew⟩ : ∃ v5, w5.setCell ⟨w1.heap.size, 4, none⟩ (.int .i64 x5) = v5 := ⟨_, rfl⟩
            have hO := (Only.set_ w5 w1.heap.size 4 (.int .i64 x5))
            have hB : Blk (w5.setCell ⟨w1.heap.size, 4, none⟩ (.int .i64 x5)) w1.heap.size 63 #[.string (strOf x1), .int .u64 (x2 : Int), .int .i64 x3, .int .u32 (x4 : Int), .int .i64 x5, .int .u64 0, .slice none 0 0] := by have := (HY.out.set_ 4 (.int .i64 x5)); simpa using this
            rw [ew] at hO hB ⊢
            have HX := Lib.hid (hO.blk HX.out (Nat.ne_of_lt HXY.out))
            have HS := Lib.hid (HS.out.only hP.out (by have := HXY.out; omega) hO)
            have HY := Lib.hid hB
            clear ew hO hB fy cy0
            refine (pg_number g A n cap bs q5 _ (Lib.hid HS.out.pg)).mono ?_
            cases h6 : rNum bs q5 with
            | none =>
              rw [Rd.bind_none h6] at HR
              rintro e w6 ⟨rfl, hk⟩
              refine ⟨rfl, ?_⟩
              rw [HR.out]
              exact RetR.none_ (HS.out.kp.trans hk)
            | some x =>
              obtain ⟨x6, q6⟩ := x
              rw [Rd.bind_some h6] at HR
              rintro e w6 ⟨v, rfl, ⟨rfl, b6⟩, hp, hk⟩
              have HX := Lib.hid (hk.notBlk HX.out (by have := HG.out; omega))
              have HY := Lib.hid (hk.notBlk HY.out (by have := HG.out; have := HXY.out; omega))
              have HS := Lib.hid (HS.out.read hp hk)
              clear hp hk
              have cy0 := HY.out.cell 5
              have fy := HY.out.frozen
              go_wp2_with fail
              obtain ⟨v6, ew⟩ : ∃ v6, w6.setCell ⟨w1.heap.size, 5, none⟩ (.int .u64 (x6 : Int)) = v6 := ⟨_, rfl⟩
              have hO := (Only.set_ w6 w1.heap.size 5 (.int .u64 (x6 : Int)))
              have hB : Blk (w6.setCell ⟨w1.heap.size, 5, none⟩ (.int .u64 (x6 : Int))) w1.heap.size 63 #[.string (strOf x1), .int .u64 (x2 : Int), .int .i64 x3, .int .u32 (x4 : Int), .int .i64 x5, .int .u64 (x6 : Int), .slice none 0 0] := by have := (HY.out.set_ 5 (.int .u64 (x6 : Int))); simpa using this
              rw [ew] at hO hB ⊢
              have HX := Lib.hid (hO.blk HX.out (Nat.ne_of_lt HXY.out))
              have HS := Lib.hid (HS.out.only hP.out (by have := HXY.out; omega) hO)
              have HY := Lib.hid hB
              clear ew hO hB fy cy0
              refine (pg_ints g A n cap bs q6 _ (Lib.hid HS.out.pg)).mono ?_
              cases h7 : rList bs (rInt bs) q6 with
              | none =>
                rw [Rd.bind_none h7] at HR
                rintro e w7 ⟨rfl, hk⟩
                refine ⟨rfl, ?_⟩
                rw [HR.out]
                exact RetR.none_ (HS.out.kp.trans hk)
              | some x =>
                obtain ⟨x7, q7⟩ := x
                rw [Rd.bind_some h7] at HR
                rintro e w7 ⟨v, rfl, ⟨A7, c7, rfl, l7, b7⟩, hp, hk⟩
                have axL7 := Lib.hid (l7.apart_lo HX.out.lt)
                have ayL7 := Lib.hid (l7.apart_lo HY.out.lt)
                have L7 := Lib.hid (l7.mono HS.out.kp.size)
                clear l7
                have HX := Lib.hid (hk.notBlk HX.out (by have := HG.out; omega))
                have HY := Lib.hid (hk.notBlk HY.out (by have := HG.out; have := HXY.out; omega))
                have HS := Lib.hid (HS.out.read hp hk)
                clear hp hk
                have cy0 := HY.out.cell 6
                have fy := HY.out.frozen
                have hO := (Only.set_ w7 w1.heap.size 6 (.slice A7 x7.length c7))
                have hB : Blk (w7.setCell ⟨w1.heap.size, 6, none⟩ (.slice A7 x7.length c7)) w1.heap.size 63 #[.string (strOf x1), .int .u64 (x2 : Int), .int .i64 x3, .int .u32 (x4 : Int), .int .i64 x5, .int .u64 (x6 : Int), .slice A7 x7.length c7] := by have := (HY.out.set_ 6 (.slice A7 x7.length c7)); simpa using this
                have L7 := Lib.hid (L7.out.only hO ayL7.out)
                have HX := Lib.hid (hO.blk HX.out (Nat.ne_of_lt HXY.out))
                have HS := Lib.hid (HS.out.only hP.out (by have := HXY.out; omega) hO)
                have HY := Lib.hid hB
                clear hO hB
                go_wp2_with (first | (refine wpl_load_blk rfl 63 (.tmp 3) rfl w1.heap.size 63 _ _ rfl HY.out Tryz.underlying63 rfl Tryz.sizeO ?_) | (refine wpl_store_blk rfl 63 (.tmp 2) (.tmp 27) rfl w.heap.size 63 _ #[.string (strOf x1), .int .u64 (x2 : Int), .int .i64 x3, .int .u32 (x4 : Int), .int .i64 x5, .int .u64 (x6 : Int), .slice A7 x7.length c7] rfl rfl HX.out rfl Tryz.sizeO rfl ?_; intro wf hB hO))
                have HS := Lib.hid (HS.out.only hP.out (by omega) hO.out)
                have L7 := Lib.hid (L7.out.only hO.out axL7.out)
                refine bodyPost_ret (v := .agg #[.string (strOf x1), .int .u64 (x2 : Int), .int .i64 x3, .int .u32 (x4 : Int), .int .i64 x5, .int .u64 (x6 : Int), .slice A7 x7.length c7]) (res_c Tryz.results57 rfl (load_blk hB.out Tryz.underlying63 rfl Tryz.sizeO)) rfl ?_
                rw [HR.out]
                exact RetR.some_ ⟨A7, c7, rfl, L7.out, ⟨b1, b2, b3, b4, b5, b6, b7⟩⟩ HS.out.pg HS.out.kp
def intCs (x : IntT) (A : Option Addr) (c : Nat) : Array Value := #[.string (strOf x.obj.key), .int .u64 (x.obj.version : Int), .int .i64 x.obj.size, .int .u32 (x.obj.sum : Int), .int .i64 x.obj.group, .int .u64 (x.obj.epoch : Int), .slice A x.obj.nodes.length c, .int .u64 (x.client : Int), .int .u64 (x.seq : Int)]
def vInt (lo : Nat) (x : IntT) (w : World) (v : Value) : Prop := ∃ A c, v = .agg (intCs x A c) ∧ Lst lo 1 A c x.obj.nodes.length (x.obj.nodes.map iv) w ∧ InteOk x
set_option maxRecDepth 100000 in
set_option maxHeartbeats 4000000 in
theorem pg_intent (g : Nat) (A : Option Addr) (n cap : Nat) (bs : List Nat) (p : Nat) (w : World) (hP : Hid (PG g A n cap bs p w)) :
    Calls Tryz.prog 59 #[.pointer (some ⟨g, 0, none⟩)] w (RetR (rIntent bs p) (vInt w.heap.size) g A n cap bs w) := by
  have HR := Lib.hid (show rIntent bs p = ((rObj bs).bind fun x1 => (rNum bs).bind fun x2 => (rNum bs).bind fun x3 => Rd.pure ⟨x1, x2, x3⟩) p from rfl)
  obtain ⟨w0, ew0⟩ : ∃ w0, w.alloc (.cells #[.string ⟨#[]⟩, .int .u64 0, .int .i64 0, .int .u32 0, .int .i64 0, .int .u64 0, .slice none 0 0, .int .u64 0, .int .u64 0] 65) = w0 := ⟨_, rfl⟩
  have hs := (RS.start hP.out).alloc (.cells #[.string ⟨#[]⟩, .int .u64 0, .int .i64 0, .int .u32 0, .int .i64 0, .int .u64 0, .slice none 0 0, .int .u64 0, .int .u64 0] 65)
  have hx : Blk (w.alloc (.cells #[.string ⟨#[]⟩, .int .u64 0, .int .i64 0, .int .u32 0, .int .i64 0, .int .u64 0, .slice none 0 0, .int .u64 0, .int .u64 0] 65)) w.heap.size 65 #[.string ⟨#[]⟩, .int .u64 0, .int .i64 0, .int .u32 0, .int .i64 0, .int .u64 0, .slice none 0 0, .int .u64 0, .int .u64 0] := by have := Blk.new w 65 #[.string ⟨#[]⟩, .int .u64 0, .int .i64 0, .int .u32 0, .int .i64 0, .int .u64 0, .slice none 0 0, .int .u64 0, .int .u64 0]; simpa using this
  rw [ew0] at hs hx
  have HS := Lib.hid hs
  have HX := Lib.hid hx
  have HG := Lib.hid hP.out.blk.lt
  clear hs hx
  go_enter Tryz.func59, Tryz.ntmps59
  go_wp2_with fail
  clear ew0
  refine (pg_object g A n cap bs p _ (Lib.hid HS.out.pg)).mono ?_
  cases h1 : rObj bs p with
  | none =>
    rw [Rd.bind_none h1] at HR
    rintro e w1 ⟨rfl, hk⟩
    refine ⟨rfl, ?_⟩
    rw [HR.out]
    exact RetR.none_ (HS.out.kp.trans hk)
  | some x =>
    obtain ⟨x1, q1⟩ := x
    rw [Rd.bind_some h1] at HR
    rintro e w1 ⟨v, rfl, ⟨A1, c1, rfl, l1, b1⟩, hp, hk⟩
    unfold objCs
    have axL1 := Lib.hid (l1.apart_lo HX.out.lt)
    have L1 := Lib.hid (l1.mono HS.out.kp.size)
    clear l1
    have HX := Lib.hid (hk.notBlk HX.out (by have := HG.out; omega))
    have HS := Lib.hid (HS.out.read hp hk)
    clear hp hk
    have ayL1 := Lib.hid (L1.out.apart_hi (Nat.le_refl _))
    have HXY := Lib.hid HX.out.lt
    go_wp2_with (refine wpl_store_blk rfl 65 (.tmp 3) (.tmp 6) rfl w1.heap.size 65 #[.string ⟨#[]⟩, .int .u64 0, .int .i64 0, .int .u32 0, .int .i64 0, .int .u64 0, .slice none 0 0, .int .u64 0, .int .u64 0] #[.string (strOf x1.key), .int .u64 (x1.version : Int), .int .i64 x1.size, .int .u32 (x1.sum : Int), .int .i64 x1.group, .int .u64 (x1.epoch : Int), .slice A1 x1.nodes.length c1, .int .u64 0, .int .u64 0] rfl rfl (Blk.new w1 _ _) rfl Tryz.sizeIn rfl ?_; intro wa hB hO)
    have L1 := Lib.hid ((L1.out.alloc _).only hO.out ayL1.out)
    have HX := Lib.hid (hO.out.blk (HX.out.alloc _) (Nat.ne_of_lt HXY.out))
    have HS := Lib.hid ((HS.out.alloc _).only hP.out (by have := HXY.out; omega) hO.out)
    have HY := Lib.hid hB.out
    clear hB hO
    refine (pg_number g A n cap bs q1 _ (Lib.hid HS.out.pg)).mono ?_
    cases h2 : rNum bs q1 with
    | none =>
      rw [Rd.bind_none h2] at HR
      rintro e w2 ⟨rfl, hk⟩
      refine ⟨rfl, ?_⟩
      rw [HR.out]
      exact RetR.none_ (HS.out.kp.trans hk)
    | some x =>
      obtain ⟨x2, q2⟩ := x
      rw [Rd.bind_some h2] at HR
      rintro e w2 ⟨v, rfl, ⟨rfl, b2⟩, hp, hk⟩
      have L1 := Lib.hid (L1.out.keep hk HG.out)
      have HX := Lib.hid (hk.notBlk HX.out (by have := HG.out; omega))
      have HY := Lib.hid (hk.notBlk HY.out (by have := HG.out; have := HXY.out; omega))
      have HS := Lib.hid (HS.out.read hp hk)
      clear hp hk
      have cy0 := HY.out.cell 7
      have fy := HY.out.frozen
      go_wp2_with fail
      obtain ⟨v2, ew⟩ : ∃ v2, w2.setCell ⟨w1.heap.size, 7, none⟩ (.int .u64 (x2 : Int)) = v2 := ⟨_, rfl⟩
      have hO := (Only.set_ w2 w1.heap.size 7 (.int .u64 (x2 : Int)))
      have hB : Blk (w2.setCell ⟨w1.heap.size, 7, none⟩ (.int .u64 (x2 : Int))) w1.heap.size 65 #[.string (strOf x1.key), .int .u64 (x1.version : Int), .int .i64 x1.size, .int .u32 (x1.sum : Int), .int .i64 x1.group, .int .u64 (x1.epoch : Int), .slice A1 x1.nodes.length c1, .int .u64 (x2 : Int), .int .u64 0] := by have := (HY.out.set_ 7 (.int .u64 (x2 : Int))); simpa using this
      rw [ew] at hO hB ⊢
      have L1 := Lib.hid (L1.out.only hO ayL1.out)
      have HX := Lib.hid (hO.blk HX.out (Nat.ne_of_lt HXY.out))
      have HS := Lib.hid (HS.out.only hP.out (by have := HXY.out; omega) hO)
      have HY := Lib.hid hB
      clear ew hO hB fy cy0
      refine (pg_number g A n cap bs q2 _ (Lib.hid HS.out.pg)).mono ?_
      cases h3 : rNum bs q2 with
      | none =>
        rw [Rd.bind_none h3] at HR
        rintro e w3 ⟨rfl, hk⟩
        refine ⟨rfl, ?_⟩
        rw [HR.out]
        exact RetR.none_ (HS.out.kp.trans hk)
      | some x =>
        obtain ⟨x3, q3⟩ := x
        rw [Rd.bind_some h3] at HR
        rintro e w3 ⟨v, rfl, ⟨rfl, b3⟩, hp, hk⟩
        have L1 := Lib.hid (L1.out.keep hk HG.out)
        have HX := Lib.hid (hk.notBlk HX.out (by have := HG.out; omega))
        have HY := Lib.hid (hk.notBlk HY.out (by have := HG.out; have := HXY.out; omega))
        have HS := Lib.hid (HS.out.read hp hk)
        clear hp hk
        have cy0 := HY.out.cell 8
        have fy := HY.out.frozen
        have hO := (Only.set_ w3 w1.heap.size 8 (.int .u64 (x3 : Int)))
        have hB : Blk (w3.setCell ⟨w1.heap.size, 8, none⟩ (.int .u64 (x3 : Int))) w1.heap.size 65 #[.string (strOf x1.key), .int .u64 (x1.version : Int), .int .i64 x1.size, .int .u32 (x1.sum : Int), .int .i64 x1.group, .int .u64 (x1.epoch : Int), .slice A1 x1.nodes.length c1, .int .u64 (x2 : Int), .int .u64 (x3 : Int)] := by have := (HY.out.set_ 8 (.int .u64 (x3 : Int))); simpa using this
        have L1 := Lib.hid (L1.out.only hO ayL1.out)
        have HX := Lib.hid (hO.blk HX.out (Nat.ne_of_lt HXY.out))
        have HS := Lib.hid (HS.out.only hP.out (by have := HXY.out; omega) hO)
        have HY := Lib.hid hB
        clear hO hB
        go_wp2_with (first | (refine wpl_load_blk rfl 65 (.tmp 3) rfl w1.heap.size 65 _ _ rfl HY.out Tryz.underlying65 rfl Tryz.sizeIn ?_) | (refine wpl_store_blk rfl 65 (.tmp 2) (.tmp 13) rfl w.heap.size 65 _ #[.string (strOf x1.key), .int .u64 (x1.version : Int), .int .i64 x1.size, .int .u32 (x1.sum : Int), .int .i64 x1.group, .int .u64 (x1.epoch : Int), .slice A1 x1.nodes.length c1, .int .u64 (x2 : Int), .int .u64 (x3 : Int)] rfl rfl HX.out rfl Tryz.sizeIn rfl ?_; intro wf hB hO))
        have HS := Lib.hid (HS.out.only hP.out (by omega) hO.out)
        have L1 := Lib.hid (L1.out.only hO.out axL1.out)
        refine bodyPost_ret (v := .agg #[.string (strOf x1.key), .int .u64 (x1.version : Int), .int .i64 x1.size, .int .u32 (x1.sum : Int), .int .i64 x1.group, .int .u64 (x1.epoch : Int), .slice A1 x1.nodes.length c1, .int .u64 (x2 : Int), .int .u64 (x3 : Int)]) (res_c Tryz.results59 rfl (load_blk hB.out Tryz.underlying65 rfl Tryz.sizeIn)) rfl ?_
        rw [HR.out]
        exact RetR.some_ ⟨A1, c1, rfl, L1.out, ⟨b1, b2, b3⟩⟩ HS.out.pg HS.out.kp
def sesCs (x : SesT) : Array Value := #[.int .u64 (x.client : Int), .int .u64 (x.seq : Int), .bool x.opn, .int .u64 (x.version : Int), .int .i64 x.code]
def vSes (x : SesT) (_ : World) (v : Value) : Prop := v = .agg (sesCs x) ∧ SesOk x
set_option maxRecDepth 100000 in
set_option maxHeartbeats 4000000 in
theorem pg_session (g : Nat) (A : Option Addr) (n cap : Nat) (bs : List Nat) (p : Nat) (w : World) (hP : Hid (PG g A n cap bs p w)) :
    Calls Tryz.prog 61 #[.pointer (some ⟨g, 0, none⟩)] w (RetR (rSes bs p) vSes g A n cap bs w) := by
  have HR := Lib.hid (show rSes bs p = ((rNum bs).bind fun x1 => (rNum bs).bind fun x2 => (rFlag bs).bind fun x3 => (rNum bs).bind fun x4 => (rInt bs).bind fun x5 => Rd.pure ⟨x1, x2, x3, x4, x5⟩) p from rfl)
  obtain ⟨w0, ew0⟩ : ∃ w0, w.alloc (.cells #[.int .u64 0, .int .u64 0, .bool false, .int .u64 0, .int .i64 0] 132) = w0 := ⟨_, rfl⟩
  have hs := (RS.start hP.out).alloc (.cells #[.int .u64 0, .int .u64 0, .bool false, .int .u64 0, .int .i64 0] 132)
  have hx : Blk (w.alloc (.cells #[.int .u64 0, .int .u64 0, .bool false, .int .u64 0, .int .i64 0] 132)) w.heap.size 132 #[.int .u64 0, .int .u64 0, .bool false, .int .u64 0, .int .i64 0] := by have := Blk.new w 132 #[.int .u64 0, .int .u64 0, .bool false, .int .u64 0, .int .i64 0]; simpa using this
  rw [ew0] at hs hx
  have HS := Lib.hid hs
  have HX := Lib.hid hx
  have HG := Lib.hid hP.out.blk.lt
  clear hs hx
  go_enter Tryz.func61, Tryz.ntmps61
  go_wp2_with fail
  clear ew0
  refine (pg_number g A n cap bs p _ (Lib.hid HS.out.pg)).mono ?_
  cases h1 : rNum bs p with
  | none =>
    rw [Rd.bind_none h1] at HR
    rintro e w1 ⟨rfl, hk⟩
    refine ⟨rfl, ?_⟩
    rw [HR.out]
    exact RetR.none_ (HS.out.kp.trans hk)
  | some x =>
    obtain ⟨x1, q1⟩ := x
    rw [Rd.bind_some h1] at HR
    rintro e w1 ⟨v, rfl, ⟨rfl, b1⟩, hp, hk⟩
    have HX := Lib.hid (hk.notBlk HX.out (by have := HG.out; omega))
    have HS := Lib.hid (HS.out.read hp hk)
    clear hp hk
    have HXY := Lib.hid HX.out.lt
    go_wp2_with (refine wpl_store_blk rfl 132 (.tmp 3) (.tmp 6) rfl w1.heap.size 132 #[.int .u64 0, .int .u64 0, .bool false, .int .u64 0, .int .i64 0] #[.int .u64 (x1 : Int), .int .u64 0, .bool false, .int .u64 0, .int .i64 0] rfl rfl (Blk.new w1 _ _) rfl Tryz.sizeSe rfl ?_; intro wa hB hO)
    have HX := Lib.hid (hO.out.blk (HX.out.alloc _) (Nat.ne_of_lt HXY.out))
    have HS := Lib.hid ((HS.out.alloc _).only hP.out (by have := HXY.out; omega) hO.out)
    have HY := Lib.hid hB.out
    clear hB hO
    refine (pg_number g A n cap bs q1 _ (Lib.hid HS.out.pg)).mono ?_
    cases h2 : rNum bs q1 with
    | none =>
      rw [Rd.bind_none h2] at HR
      rintro e w2 ⟨rfl, hk⟩
      refine ⟨rfl, ?_⟩
      rw [HR.out]
      exact RetR.none_ (HS.out.kp.trans hk)
    | some x =>
      obtain ⟨x2, q2⟩ := x
      rw [Rd.bind_some h2] at HR
      rintro e w2 ⟨v, rfl, ⟨rfl, b2⟩, hp, hk⟩
      have HX := Lib.hid (hk.notBlk HX.out (by have := HG.out; omega))
      have HY := Lib.hid (hk.notBlk HY.out (by have := HG.out; have := HXY.out; omega))
      have HS := Lib.hid (HS.out.read hp hk)
      clear hp hk
      have cy0 := HY.out.cell 1
      have fy := HY.out.frozen
      go_wp2_with fail
      obtain ⟨v2, ew⟩ : ∃ v2, w2.setCell ⟨w1.heap.size, 1, none⟩ (.int .u64 (x2 : Int)) = v2 := ⟨_, rfl⟩
      have hO := (Only.set_ w2 w1.heap.size 1 (.int .u64 (x2 : Int)))
      have hB : Blk (w2.setCell ⟨w1.heap.size, 1, none⟩ (.int .u64 (x2 : Int))) w1.heap.size 132 #[.int .u64 (x1 : Int), .int .u64 (x2 : Int), .bool false, .int .u64 0, .int .i64 0] := by have := (HY.out.set_ 1 (.int .u64 (x2 : Int))); simpa using this
      rw [ew] at hO hB ⊢
      have HX := Lib.hid (hO.blk HX.out (Nat.ne_of_lt HXY.out))
      have HS := Lib.hid (HS.out.only hP.out (by have := HXY.out; omega) hO)
      have HY := Lib.hid hB
      clear ew hO hB fy cy0
      refine (pg_flag g A n cap bs q2 _ (Lib.hid HS.out.pg)).mono ?_
      cases h3 : rFlag bs q2 with
      | none =>
        rw [Rd.bind_none h3] at HR
        rintro e w3 ⟨rfl, hk⟩
        refine ⟨rfl, ?_⟩
        rw [HR.out]
        exact RetR.none_ (HS.out.kp.trans hk)
      | some x =>
        obtain ⟨x3, q3⟩ := x
        rw [Rd.bind_some h3] at HR
        rintro e w3 ⟨v, rfl, rfl, hp, hk⟩
        have HX := Lib.hid (hk.notBlk HX.out (by have := HG.out; omega))
        have HY := Lib.hid (hk.notBlk HY.out (by have := HG.out; have := HXY.out; omega))
        have HS := Lib.hid (HS.out.read hp hk)
        clear hp hk
        have cy0 := HY.out.cell 2
        have fy := HY.out.frozen
        go_wp2_with fail
        obtain ⟨v3, ew⟩ : ∃ v3, w3.setCell ⟨w1.heap.size, 2, none⟩ (.bool x3) = v3 := ⟨_, rfl⟩
        have hO := (Only.set_ w3 w1.heap.size 2 (.bool x3))
        have hB : Blk (w3.setCell ⟨w1.heap.size, 2, none⟩ (.bool x3)) w1.heap.size 132 #[.int .u64 (x1 : Int), .int .u64 (x2 : Int), .bool x3, .int .u64 0, .int .i64 0] := by have := (HY.out.set_ 2 (.bool x3)); simpa using this
        rw [ew] at hO hB ⊢
        have HX := Lib.hid (hO.blk HX.out (Nat.ne_of_lt HXY.out))
        have HS := Lib.hid (HS.out.only hP.out (by have := HXY.out; omega) hO)
        have HY := Lib.hid hB
        clear ew hO hB fy cy0
        refine (pg_number g A n cap bs q3 _ (Lib.hid HS.out.pg)).mono ?_
        cases h4 : rNum bs q3 with
        | none =>
          rw [Rd.bind_none h4] at HR
          rintro e w4 ⟨rfl, hk⟩
          refine ⟨rfl, ?_⟩
          rw [HR.out]
          exact RetR.none_ (HS.out.kp.trans hk)
        | some x =>
          obtain ⟨x4, q4⟩ := x
          rw [Rd.bind_some h4] at HR
          rintro e w4 ⟨v, rfl, ⟨rfl, b4⟩, hp, hk⟩
          have HX := Lib.hid (hk.notBlk HX.out (by have := HG.out; omega))
          have HY := Lib.hid (hk.notBlk HY.out (by have := HG.out; have := HXY.out; omega))
          have HS := Lib.hid (HS.out.read hp hk)
          clear hp hk
          have cy0 := HY.out.cell 3
          have fy := HY.out.frozen
          go_wp2_with fail
          obtain ⟨v4, ew⟩ : ∃ v4, w4.setCell ⟨w1.heap.size, 3, none⟩ (.int .u64 (x4 : Int)) = v4 := ⟨_, rfl⟩
          have hO := (Only.set_ w4 w1.heap.size 3 (.int .u64 (x4 : Int)))
          have hB : Blk (w4.setCell ⟨w1.heap.size, 3, none⟩ (.int .u64 (x4 : Int))) w1.heap.size 132 #[.int .u64 (x1 : Int), .int .u64 (x2 : Int), .bool x3, .int .u64 (x4 : Int), .int .i64 0] := by have := (HY.out.set_ 3 (.int .u64 (x4 : Int))); simpa using this
          rw [ew] at hO hB ⊢
          have HX := Lib.hid (hO.blk HX.out (Nat.ne_of_lt HXY.out))
          have HS := Lib.hid (HS.out.only hP.out (by have := HXY.out; omega) hO)
          have HY := Lib.hid hB
          clear ew hO hB fy cy0
          refine (pg_int g A n cap bs q4 _ (Lib.hid HS.out.pg)).mono ?_
          cases h5 : rInt bs q4 with
          | none =>
            rw [Rd.bind_none h5] at HR
            rintro e w5 ⟨rfl, hk⟩
            refine ⟨rfl, ?_⟩
            rw [HR.out]
            exact RetR.none_ (HS.out.kp.trans hk)
          | some x =>
            obtain ⟨x5, q5⟩ := x
            rw [Rd.bind_some h5] at HR
            rintro e w5 ⟨v, rfl, ⟨rfl, b5⟩, hp, hk⟩
            have HX := Lib.hid (hk.notBlk HX.out (by have := HG.out; omega))
            have HY := Lib.hid (hk.notBlk HY.out (by have := HG.out; have := HXY.out; omega))
            have HS := Lib.hid (HS.out.read hp hk)
            clear hp hk
            have cy0 := HY.out.cell 4
            have fy := HY.out.frozen
            have hO := (Only.set_ w5 w1.heap.size 4 (.int .i64 x5))
            have hB : Blk (w5.setCell ⟨w1.heap.size, 4, none⟩ (.int .i64 x5)) w1.heap.size 132 #[.int .u64 (x1 : Int), .int .u64 (x2 : Int), .bool x3, .int .u64 (x4 : Int), .int .i64 x5] := by have := (HY.out.set_ 4 (.int .i64 x5)); simpa using this
            have HX := Lib.hid (hO.blk HX.out (Nat.ne_of_lt HXY.out))
            have HS := Lib.hid (HS.out.only hP.out (by have := HXY.out; omega) hO)
            have HY := Lib.hid hB
            clear hO hB
            go_wp2_with (first | (refine wpl_load_blk rfl 132 (.tmp 3) rfl w1.heap.size 132 _ _ rfl HY.out Tryz.underlying132 rfl Tryz.sizeSe ?_) | (refine wpl_store_blk rfl 132 (.tmp 2) (.tmp 19) rfl w.heap.size 132 _ #[.int .u64 (x1 : Int), .int .u64 (x2 : Int), .bool x3, .int .u64 (x4 : Int), .int .i64 x5] rfl rfl HX.out rfl Tryz.sizeSe rfl ?_; intro wf hB hO))
            have HS := Lib.hid (HS.out.only hP.out (by omega) hO.out)
            refine bodyPost_ret (v := .agg #[.int .u64 (x1 : Int), .int .u64 (x2 : Int), .bool x3, .int .u64 (x4 : Int), .int .i64 x5]) (res_c Tryz.results61 rfl (load_blk hB.out Tryz.underlying132 rfl Tryz.sizeSe)) rfl ?_
            rw [HR.out]
            exact RetR.some_ ⟨rfl, ⟨b1, b2, b4, b5⟩⟩ HS.out.pg HS.out.kp
/-- An object in memory: its content, and where its nodes lie. -/
structure OM where
  x : ObjT
  A : Option Addr
  c : Nat
def omCs (m : OM) : List Value := (#[.string (strOf m.x.key), .int .u64 (m.x.version : Int), .int .i64 m.x.size, .int .u32 (m.x.sum : Int), .int .i64 m.x.group, .int .u64 (m.x.epoch : Int), .slice m.A m.x.nodes.length m.c] : Array Value).toList
/-- An intent in memory. -/
structure IM where
  x : IntT
  A : Option Addr
  c : Nat
def imCs (m : IM) : List Value := (#[.string (strOf m.x.obj.key), .int .u64 (m.x.obj.version : Int), .int .i64 m.x.obj.size, .int .u32 (m.x.obj.sum : Int), .int .i64 m.x.obj.group, .int .u64 (m.x.obj.epoch : Int), .slice m.A m.x.obj.nodes.length m.c, .int .u64 (m.x.client : Int), .int .u64 (m.x.seq : Int)] : Array Value).toList
end Go.Proofs.YthgiafjiemiifaaGreat
end
