/-
  THE PROGRAM'S READER: entries. (printed by gen_par6.py); THE PROGRAM'S READER: what recovers. (printed by gen_pag1.py). (joined out of PaR11, PaG1 by shake.py)
-/
import Derived.Recover
import Derived.Defers
import Derived.Test.YtijdbdenmcjmmaaGreatDoorNen09
section
namespace Go.Proofs.YtijdbdenmcjmmaaGreatDoor
open Go.RowKit OctMath
set_option linter.unusedVariables false
theorem Tryz.sizeE : (Tryz.prog.info? 86).map (·.size) = some 21 := by kernel_rfl
def entCs (x : EntT) (A : Option Addr) (c : Nat) (A1 : Option Addr) (c1 : Nat) (A2 : Option Addr) (c2 : Nat) : Array Value := #[.int .u64 (x.index : Int), .int .u64 (x.term : Int), .int .i64 x.kind, .int .i64 x.cmd.kind, .int .u64 (x.cmd.client : Int), .int .u64 (x.cmd.seq : Int), .string (strOf x.cmd.key), .int .i64 x.cmd.size, .int .u32 (x.cmd.sum : Int), .int .u64 (x.cmd.version : Int), .int .u64 (x.cmd.epoch : Int), .int .i64 x.cmd.group, .int .i64 x.cmd.node, .bool x.cmd.up, .int .u64 (x.cmd.id.ver : Int), .int .i64 x.cmd.id.idx, .int .u64 (x.cmd.id.ep : Int), .int .u64 (x.cmd.mep : Int), .slice A x.cmd.mem.length c, .slice A1 x.voters.length c1, .slice A2 x.learners.length c2]
def vEnt (lo : Nat) (x : EntT) (w : World) (v : Value) : Prop := ∃ A c A1 c1 A2 c2, v = .agg (entCs x A c A1 c1 A2 c2) ∧ Lst lo 2 A c x.cmd.mem.length (mcells x.cmd.mem) w ∧ Lst lo 1 A1 c1 x.voters.length (x.voters.map iv) w ∧ Lst lo 1 A2 c2 x.learners.length (x.learners.map iv) w ∧ EntOk x
set_option maxRecDepth 100000 in
set_option maxHeartbeats 4000000 in
theorem pg_entry (g : Nat) (A : Option Addr) (n cap : Nat) (bs : List Nat) (p : Nat) (w : World) (hP : Hid (PG g A n cap bs p w)) :
    Calls Tryz.prog 43 #[.pointer (some ⟨g, 0, none⟩)] w (RetR (rEnt bs p) (vEnt w.heap.size) g A n cap bs w) := by
  have HR := Lh (show rEnt bs p = ((rNum bs).bind fun x1 => (rNum bs).bind fun x2 => (rInt bs).bind fun x3 => (rCmd bs).bind fun x4 => (rConf bs).bind fun x5 => Rd.pure ⟨x1, x2, x3, x4, x5.1, x5.2⟩) p from rfl)
  obtain ⟨w0, ew0⟩ : ∃ w0, w.alloc (.cells #[.int .u64 0, .int .u64 0, .int .i64 0, .int .i64 0, .int .u64 0, .int .u64 0, .string ⟨#[]⟩, .int .i64 0, .int .u32 0, .int .u64 0, .int .u64 0, .int .i64 0, .int .i64 0, .bool false, .int .u64 0, .int .i64 0, .int .u64 0, .int .u64 0, .slice none 0 0, .slice none 0 0, .slice none 0 0] 86) = w0 := ⟨_, rfl⟩
  have hs := (RS.start hP.out).alloc (.cells #[.int .u64 0, .int .u64 0, .int .i64 0, .int .i64 0, .int .u64 0, .int .u64 0, .string ⟨#[]⟩, .int .i64 0, .int .u32 0, .int .u64 0, .int .u64 0, .int .i64 0, .int .i64 0, .bool false, .int .u64 0, .int .i64 0, .int .u64 0, .int .u64 0, .slice none 0 0, .slice none 0 0, .slice none 0 0] 86)
  have hx : Blk (w.alloc (.cells #[.int .u64 0, .int .u64 0, .int .i64 0, .int .i64 0, .int .u64 0, .int .u64 0, .string ⟨#[]⟩, .int .i64 0, .int .u32 0, .int .u64 0, .int .u64 0, .int .i64 0, .int .i64 0, .bool false, .int .u64 0, .int .i64 0, .int .u64 0, .int .u64 0, .slice none 0 0, .slice none 0 0, .slice none 0 0] 86)) w.heap.size 86 #[.int .u64 0, .int .u64 0, .int .i64 0, .int .i64 0, .int .u64 0, .int .u64 0, .string ⟨#[]⟩, .int .i64 0, .int .u32 0, .int .u64 0, .int .u64 0, .int .i64 0, .int .i64 0, .bool false, .int .u64 0, .int .i64 0, .int .u64 0, .int .u64 0, .slice none 0 0, .slice none 0 0, .slice none 0 0] := by have := Blk.new w 86 #[.int .u64 0, .int .u64 0, .int .i64 0, .int .i64 0, .int .u64 0, .int .u64 0, .string ⟨#[]⟩, .int .i64 0, .int .u32 0, .int .u64 0, .int .u64 0, .int .i64 0, .int .i64 0, .bool false, .int .u64 0, .int .i64 0, .int .u64 0, .int .u64 0, .slice none 0 0, .slice none 0 0, .slice none 0 0]; simpa using this
  rw [ew0] at hs hx
  have HS := Lh hs
  have HX := Lh hx
  have HG := Lh hP.out.blk.lt
  clear hs hx
  go_enter Tryz.func43, Tryz.ntmps43
  go_wp2_with fail
  clear ew0
  refine (pg_number g A n cap bs p _ (Lh HS.out.pg)).mono ?_
  cases h1 : rNum bs p with
  | none =>
    rw [Rd.bind_none h1] at HR
    rintro e w1 ⟨rfl, hk⟩
    refine ⟨rfl, ?_⟩
    rw [HR.out]
    exact RetR.none_ (HS.out.kp.trans hk)
  | some x =>
    obtain ⟨x1, q1⟩ := x
    rw [Rd.bind_some h1] at HR
    rintro e w1 ⟨v, rfl, ⟨rfl, b1⟩, hp, hk⟩
    have HX := Lh (hk.notBlk HX.out (by have := HG.out; omega))
    have HS := Lh (HS.out.read hp hk)
    clear hp hk
    have HXY := Lh HX.out.lt
    go_wp2_with (refine wpl_store_blk rfl 86 (.tmp 3) (.tmp 6) rfl w1.heap.size 86 #[.int .u64 0, .int .u64 0, .int .i64 0, .int .i64 0, .int .u64 0, .int .u64 0, .string ⟨#[]⟩, .int .i64 0, .int .u32 0, .int .u64 0, .int .u64 0, .int .i64 0, .int .i64 0, .bool false, .int .u64 0, .int .i64 0, .int .u64 0, .int .u64 0, .slice none 0 0, .slice none 0 0, .slice none 0 0] #[.int .u64 (x1 : Int), .int .u64 0, .int .i64 0, .int .i64 0, .int .u64 0, .int .u64 0, .string ⟨#[]⟩, .int .i64 0, .int .u32 0, .int .u64 0, .int .u64 0, .int .i64 0, .int .i64 0, .bool false, .int .u64 0, .int .i64 0, .int .u64 0, .int .u64 0, .slice none 0 0, .slice none 0 0, .slice none 0 0] rfl rfl (Blk.new w1 _ _) rfl Tryz.sizeE rfl ?_; intro wa hB hO)
    have HX := Lh (hO.out.blk (HX.out.alloc _) (Nat.ne_of_lt HXY.out))
    have HS := Lh ((HS.out.alloc _).only hP.out (by have := HXY.out; omega) hO.out)
    have HY := Lh hB.out
    clear hB hO
    refine (pg_number g A n cap bs q1 _ (Lh HS.out.pg)).mono ?_
    cases h2 : rNum bs q1 with
    | none =>
      rw [Rd.bind_none h2] at HR
      rintro e w2 ⟨rfl, hk⟩
      refine ⟨rfl, ?_⟩
      rw [HR.out]
      exact RetR.none_ (HS.out.kp.trans hk)
    | some x =>
      obtain ⟨x2, q2⟩ := x
      rw [Rd.bind_some h2] at HR
      rintro e w2 ⟨v, rfl, ⟨rfl, b2⟩, hp, hk⟩
      have HX := Lh (hk.notBlk HX.out (by have := HG.out; omega))
      have HY := Lh (hk.notBlk HY.out (by have := HG.out; have := HXY.out; omega))
      have HS := Lh (HS.out.read hp hk)
      clear hp hk
      have cy0 := HY.out.cell 1
      have fy := HY.out.frozen
      go_wp2_with fail
      obtain ⟨v2, ew⟩ : ∃ v2, w2.setCell ⟨w1.heap.size, 1, none⟩ (.int .u64 (x2 : Int)) = v2 := ⟨_, rfl⟩
      have hO := (Only.set_ w2 w1.heap.size 1 (.int .u64 (x2 : Int)))
      have hB : Blk (w2.setCell ⟨w1.heap.size, 1, none⟩ (.int .u64 (x2 : Int))) w1.heap.size 86 #[.int .u64 (x1 : Int), .int .u64 (x2 : Int), .int .i64 0, .int .i64 0, .int .u64 0, .int .u64 0, .string ⟨#[]⟩, .int .i64 0, .int .u32 0, .int .u64 0, .int .u64 0, .int .i64 0, .int .i64 0, .bool false, .int .u64 0, .int .i64 0, .int .u64 0, .int .u64 0, .slice none 0 0, .slice none 0 0, .slice none 0 0] := by have := (HY.out.set_ 1 (.int .u64 (x2 : Int))); simpa using this
      rw [ew] at hO hB ⊢
      have HX := Lh (hO.blk HX.out (Nat.ne_of_lt HXY.out))
      have HS := Lh (HS.out.only hP.out (by have := HXY.out; omega) hO)
      have HY := Lh hB
      clear ew hO hB fy cy0
      refine (pg_int g A n cap bs q2 _ (Lh HS.out.pg)).mono ?_
      cases h3 : rInt bs q2 with
      | none =>
        rw [Rd.bind_none h3] at HR
        rintro e w3 ⟨rfl, hk⟩
        refine ⟨rfl, ?_⟩
        rw [HR.out]
        exact RetR.none_ (HS.out.kp.trans hk)
      | some x =>
        obtain ⟨x3, q3⟩ := x
        rw [Rd.bind_some h3] at HR
        rintro e w3 ⟨v, rfl, ⟨rfl, b3⟩, hp, hk⟩
        have HX := Lh (hk.notBlk HX.out (by have := HG.out; omega))
        have HY := Lh (hk.notBlk HY.out (by have := HG.out; have := HXY.out; omega))
        have HS := Lh (HS.out.read hp hk)
        clear hp hk
        have cy0 := HY.out.cell 2
        have fy := HY.out.frozen
        go_wp2_with fail
        obtain ⟨v3, ew⟩ : ∃ v3, w3.setCell ⟨w1.heap.size, 2, none⟩ (.int .i64 x3) = v3 := ⟨_, rfl⟩
        have hO := (Only.set_ w3 w1.heap.size 2 (.int .i64 x3))
        have hB : Blk (w3.setCell ⟨w1.heap.size, 2, none⟩ (.int .i64 x3)) w1.heap.size 86 #[.int .u64 (x1 : Int), .int .u64 (x2 : Int), .int .i64 x3, .int .i64 0, .int .u64 0, .int .u64 0, .string ⟨#[]⟩, .int .i64 0, .int .u32 0, .int .u64 0, .int .u64 0, .int .i64 0, .int .i64 0, .bool false, .int .u64 0, .int .i64 0, .int .u64 0, .int .u64 0, .slice none 0 0, .slice none 0 0, .slice none 0 0] := by have := (HY.out.set_ 2 (.int .i64 x3)); simpa using this
        rw [ew] at hO hB ⊢
        have HX := Lh (hO.blk HX.out (Nat.ne_of_lt HXY.out))
        have HS := Lh (HS.out.only hP.out (by have := HXY.out; omega) hO)
        have HY := Lh hB
        clear ew hO hB fy cy0
        refine (pg_cmd g A n cap bs q3 _ (Lh HS.out.pg)).mono ?_
        cases h4 : rCmd bs q3 with
        | none =>
          rw [Rd.bind_none h4] at HR
          rintro e w4 ⟨rfl, hk⟩
          refine ⟨rfl, ?_⟩
          rw [HR.out]
          exact RetR.none_ (HS.out.kp.trans hk)
        | some x =>
          obtain ⟨x4, q4⟩ := x
          rw [Rd.bind_some h4] at HR
          rintro e w4 ⟨v, rfl, ⟨A4, c4, rfl, l4, b4⟩, hp, hk⟩
          unfold cmdCs
          have axL4 := Lh (l4.apart_lo HX.out.lt)
          have ayL4 := Lh (l4.apart_lo HY.out.lt)
          have L4 := Lh (l4.mono HS.out.kp.size)
          clear l4
          have HX := Lh (hk.notBlk HX.out (by have := HG.out; omega))
          have HY := Lh (hk.notBlk HY.out (by have := HG.out; have := HXY.out; omega))
          have HS := Lh (HS.out.read hp hk)
          clear hp hk
          have cy0 := HY.out.cell 3
          have cy1 := HY.out.cell 4
          have cy2 := HY.out.cell 5
          have cy3 := HY.out.cell 6
          have cy4 := HY.out.cell 7
          have cy5 := HY.out.cell 8
          have cy6 := HY.out.cell 9
          have cy7 := HY.out.cell 10
          have cy8 := HY.out.cell 11
          have cy9 := HY.out.cell 12
          have cy10 := HY.out.cell 13
          have cy11 := HY.out.cell 14
          have cy12 := HY.out.cell 15
          have cy13 := HY.out.cell 16
          have cy14 := HY.out.cell 17
          have cy15 := HY.out.cell 18
          have fy := HY.out.frozen
          go_wp2_with fail
          obtain ⟨v4, ew⟩ : ∃ v4, (((((((((((((((w4.setCell ⟨w1.heap.size, 3, none⟩ (.int .i64 x4.kind)).setCell ⟨w1.heap.size, 4, none⟩ (.int .u64 (x4.client : Int))).setCell ⟨w1.heap.size, 5, none⟩ (.int .u64 (x4.seq : Int))).setCell ⟨w1.heap.size, 6, none⟩ (.string (strOf x4.key))).setCell ⟨w1.heap.size, 7, none⟩ (.int .i64 x4.size)).setCell ⟨w1.heap.size, 8, none⟩ (.int .u32 (x4.sum : Int))).setCell ⟨w1.heap.size, 9, none⟩ (.int .u64 (x4.version : Int))).setCell ⟨w1.heap.size, 10, none⟩ (.int .u64 (x4.epoch : Int))).setCell ⟨w1.heap.size, 11, none⟩ (.int .i64 x4.group)).setCell ⟨w1.heap.size, 12, none⟩ (.int .i64 x4.node)).setCell ⟨w1.heap.size, 13, none⟩ (.bool x4.up)).setCell ⟨w1.heap.size, 14, none⟩ (.int .u64 (x4.id.ver : Int))).setCell ⟨w1.heap.size, 15, none⟩ (.int .i64 x4.id.idx)).setCell ⟨w1.heap.size, 16, none⟩ (.int .u64 (x4.id.ep : Int))).setCell ⟨w1.heap.size, 17, none⟩ (.int .u64 (x4.mep : Int))).setCell ⟨w1.heap.size, 18, none⟩ (.slice A4 x4.mem.length c4) = v4 := ⟨_, rfl⟩
          have hO := ((((((((((((((((Only.set_ w4 w1.heap.size 3 (.int .i64 x4.kind)).trans (Only.set_ (w4.setCell ⟨w1.heap.size, 3, none⟩ (.int .i64 x4.kind)) w1.heap.size 4 (.int .u64 (x4.client : Int)))).trans (Only.set_ ((w4.setCell ⟨w1.heap.size, 3, none⟩ (.int .i64 x4.kind)).setCell ⟨w1.heap.size, 4, none⟩ (.int .u64 (x4.client : Int))) w1.heap.size 5 (.int .u64 (x4.seq : Int)))).trans (Only.set_ (((w4.setCell ⟨w1.heap.size, 3, none⟩ (.int .i64 x4.kind)).setCell ⟨w1.heap.size, 4, none⟩ (.int .u64 (x4.client : Int))).setCell ⟨w1.heap.size, 5, none⟩ (.int .u64 (x4.seq : Int))) w1.heap.size 6 (.string (strOf x4.key)))).trans (Only.set_ ((((w4.setCell ⟨w1.heap.size, 3, none⟩ (.int .i64 x4.kind)).setCell ⟨w1.heap.size, 4, none⟩ (.int .u64 (x4.client : Int))).setCell ⟨w1.heap.size, 5, none⟩ (.int .u64 (x4.seq : Int))).setCell ⟨w1.heap.size, 6, none⟩ (.string (strOf x4.key))) w1.heap.size 7 (.int .i64 x4.size))).trans (Only.set_ (((((w4.setCell ⟨w1.heap.size, 3, none⟩ (.int .i64 x4.kind)).setCell ⟨w1.heap.size, 4, none⟩ (.int .u64 (x4.client : Int))).setCell ⟨w1.heap.size, 5, none⟩ (.int .u64 (x4.seq : Int))).setCell ⟨w1.heap.size, 6, none⟩ (.string (strOf x4.key))).setCell ⟨w1.heap.size, 7, none⟩ (.int .i64 x4.size)) w1.heap.size 8 (.int .u32 (x4.sum : Int)))).trans (Only.set_ ((((((w4.setCell ⟨w1.heap.size, 3, none⟩ (.int .i64 x4.kind)).setCell ⟨w1.heap.size, 4, none⟩ (.int .u64 (x4.client : Int))).setCell ⟨w1.heap.size, 5, none⟩ (.int .u64 (x4.seq : Int))).setCell ⟨w1.heap.size, 6, none⟩ (.string (strOf x4.key))).setCell ⟨w1.heap.size, 7, none⟩ (.int .i64 x4.size)).setCell ⟨w1.heap.size, 8, none⟩ (.int .u32 (x4.sum : Int))) w1.heap.size 9 (.int .u64 (x4.version : Int)))).trans (Only.set_ (((((((w4.setCell ⟨w1.heap.size, 3, none⟩ (.int .i64 x4.kind)).setCell ⟨w1.heap.size, 4, none⟩ (.int .u64 (x4.client : Int))).setCell ⟨w1.heap.size, 5, none⟩ (.int .u64 (x4.seq : Int))).setCell ⟨w1.heap.size, 6, none⟩ (.string (strOf x4.key))).setCell ⟨w1.heap.size, 7, none⟩ (.int .i64 x4.size)).setCell ⟨w1.heap.size, 8, none⟩ (.int .u32 (x4.sum : Int))).setCell ⟨w1.heap.size, 9, none⟩ (.int .u64 (x4.version : Int))) w1.heap.size 10 (.int .u64 (x4.epoch : Int)))).trans (Only.set_ ((((((((w4.setCell ⟨w1.heap.size, 3, none⟩ (.int .i64 x4.kind)).setCell ⟨w1.heap.size, 4, none⟩ (.int .u64 (x4.client : Int))).setCell ⟨w1.heap.size, 5, none⟩ (.int .u64 (x4.seq : Int))).setCell ⟨w1.heap.size, 6, none⟩ (.string (strOf x4.key))).setCell ⟨w1.heap.size, 7, none⟩ (.int .i64 x4.size)).setCell ⟨w1.heap.size, 8, none⟩ (.int .u32 (x4.sum : Int))).setCell ⟨w1.heap.size, 9, none⟩ (.int .u64 (x4.version : Int))).setCell ⟨w1.heap.size, 10, none⟩ (.int .u64 (x4.epoch : Int))) w1.heap.size 11 (.int .i64 x4.group))).trans (Only.set_ (((((((((w4.setCell ⟨w1.heap.size, 3, none⟩ (.int .i64 x4.kind)).setCell ⟨w1.heap.size, 4, none⟩ (.int .u64 (x4.client : Int))).setCell ⟨w1.heap.size, 5, none⟩ (.int .u64 (x4.seq : Int))).setCell ⟨w1.heap.size, 6, none⟩ (.string (strOf x4.key))).setCell ⟨w1.heap.size, 7, none⟩ (.int .i64 x4.size)).setCell ⟨w1.heap.size, 8, none⟩ (.int .u32 (x4.sum : Int))).setCell ⟨w1.heap.size, 9, none⟩ (.int .u64 (x4.version : Int))).setCell ⟨w1.heap.size, 10, none⟩ (.int .u64 (x4.epoch : Int))).setCell ⟨w1.heap.size, 11, none⟩ (.int .i64 x4.group)) w1.heap.size 12 (.int .i64 x4.node))).trans (Only.set_ ((((((((((w4.setCell ⟨w1.heap.size, 3, none⟩ (.int .i64 x4.kind)).setCell ⟨w1.heap.size, 4, none⟩ (.int .u64 (x4.client : Int))).setCell ⟨w1.heap.size, 5, none⟩ (.int .u64 (x4.seq : Int))).setCell ⟨w1.heap.size, 6, none⟩ (.string (strOf x4.key))).setCell ⟨w1.heap.size, 7, none⟩ (.int .i64 x4.size)).setCell ⟨w1.heap.size, 8, none⟩ (.int .u32 (x4.sum : Int))).setCell ⟨w1.heap.size, 9, none⟩ (.int .u64 (x4.version : Int))).setCell ⟨w1.heap.size, 10, none⟩ (.int .u64 (x4.epoch : Int))).setCell ⟨w1.heap.size, 11, none⟩ (.int .i64 x4.group)).setCell ⟨w1.heap.size, 12, none⟩ (.int .i64 x4.node)) w1.heap.size 13 (.bool x4.up))).trans (Only.set_ (((((((((((w4.setCell ⟨w1.heap.size, 3, none⟩ (.int .i64 x4.kind)).setCell ⟨w1.heap.size, 4, none⟩ (.int .u64 (x4.client : Int))).setCell ⟨w1.heap.size, 5, none⟩ (.int .u64 (x4.seq : Int))).setCell ⟨w1.heap.size, 6, none⟩ (.string (strOf x4.key))).setCell ⟨w1.heap.size, 7, none⟩ (.int .i64 x4.size)).setCell ⟨w1.heap.size, 8, none⟩ (.int .u32 (x4.sum : Int))).setCell ⟨w1.heap.size, 9, none⟩ (.int .u64 (x4.version : Int))).setCell ⟨w1.heap.size, 10, none⟩ (.int .u64 (x4.epoch : Int))).setCell ⟨w1.heap.size, 11, none⟩ (.int .i64 x4.group)).setCell ⟨w1.heap.size, 12, none⟩ (.int .i64 x4.node)).setCell ⟨w1.heap.size, 13, none⟩ (.bool x4.up)) w1.heap.size 14 (.int .u64 (x4.id.ver : Int)))).trans (Only.set_ ((((((((((((w4.setCell ⟨w1.heap.size, 3, none⟩ (.int .i64 x4.kind)).setCell ⟨w1.heap.size, 4, none⟩ (.int .u64 (x4.client : Int))).setCell ⟨w1.heap.size, 5, none⟩ (.int .u64 (x4.seq : Int))).setCell ⟨w1.heap.size, 6, none⟩ (.string (strOf x4.key))).setCell ⟨w1.heap.size, 7, none⟩ (.int .i64 x4.size)).setCell ⟨w1.heap.size, 8, none⟩ (.int .u32 (x4.sum : Int))).setCell ⟨w1.heap.size, 9, none⟩ (.int .u64 (x4.version : Int))).setCell ⟨w1.heap.size, 10, none⟩ (.int .u64 (x4.epoch : Int))).setCell ⟨w1.heap.size, 11, none⟩ (.int .i64 x4.group)).setCell ⟨w1.heap.size, 12, none⟩ (.int .i64 x4.node)).setCell ⟨w1.heap.size, 13, none⟩ (.bool x4.up)).setCell ⟨w1.heap.size, 14, none⟩ (.int .u64 (x4.id.ver : Int))) w1.heap.size 15 (.int .i64 x4.id.idx))).trans (Only.set_ (((((((((((((w4.setCell ⟨w1.heap.size, 3, none⟩ (.int .i64 x4.kind)).setCell ⟨w1.heap.size, 4, none⟩ (.int .u64 (x4.client : Int))).setCell ⟨w1.heap.size, 5, none⟩ (.int .u64 (x4.seq : Int))).setCell ⟨w1.heap.size, 6, none⟩ (.string (strOf x4.key))).setCell ⟨w1.heap.size, 7, none⟩ (.int .i64 x4.size)).setCell ⟨w1.heap.size, 8, none⟩ (.int .u32 (x4.sum : Int))).setCell ⟨w1.heap.size, 9, none⟩ (.int .u64 (x4.version : Int))).setCell ⟨w1.heap.size, 10, none⟩ (.int .u64 (x4.epoch : Int))).setCell ⟨w1.heap.size, 11, none⟩ (.int .i64 x4.group)).setCell ⟨w1.heap.size, 12, none⟩ (.int .i64 x4.node)).setCell ⟨w1.heap.size, 13, none⟩ (.bool x4.up)).setCell ⟨w1.heap.size, 14, none⟩ (.int .u64 (x4.id.ver : Int))).setCell ⟨w1.heap.size, 15, none⟩ (.int .i64 x4.id.idx)) w1.heap.size 16 (.int .u64 (x4.id.ep : Int)))).trans (Only.set_ ((((((((((((((w4.setCell ⟨w1.heap.size, 3, none⟩ (.int .i64 x4.kind)).setCell ⟨w1.heap.size, 4, none⟩ (.int .u64 (x4.client : Int))).setCell ⟨w1.heap.size, 5, none⟩ (.int .u64 (x4.seq : Int))).setCell ⟨w1.heap.size, 6, none⟩ (.string (strOf x4.key))).setCell ⟨w1.heap.size, 7, none⟩ (.int .i64 x4.size)).setCell ⟨w1.heap.size, 8, none⟩ (.int .u32 (x4.sum : Int))).setCell ⟨w1.heap.size, 9, none⟩ (.int .u64 (x4.version : Int))).setCell ⟨w1.heap.size, 10, none⟩ (.int .u64 (x4.epoch : Int))).setCell ⟨w1.heap.size, 11, none⟩ (.int .i64 x4.group)).setCell ⟨w1.heap.size, 12, none⟩ (.int .i64 x4.node)).setCell ⟨w1.heap.size, 13, none⟩ (.bool x4.up)).setCell ⟨w1.heap.size, 14, none⟩ (.int .u64 (x4.id.ver : Int))).setCell ⟨w1.heap.size, 15, none⟩ (.int .i64 x4.id.idx)).setCell ⟨w1.heap.size, 16, none⟩ (.int .u64 (x4.id.ep : Int))) w1.heap.size 17 (.int .u64 (x4.mep : Int)))).trans (Only.set_ (((((((((((((((w4.setCell ⟨w1.heap.size, 3, none⟩ (.int .i64 x4.kind)).setCell ⟨w1.heap.size, 4, none⟩ (.int .u64 (x4.client : Int))).setCell ⟨w1.heap.size, 5, none⟩ (.int .u64 (x4.seq : Int))).setCell ⟨w1.heap.size, 6, none⟩ (.string (strOf x4.key))).setCell ⟨w1.heap.size, 7, none⟩ (.int .i64 x4.size)).setCell ⟨w1.heap.size, 8, none⟩ (.int .u32 (x4.sum : Int))).setCell ⟨w1.heap.size, 9, none⟩ (.int .u64 (x4.version : Int))).setCell ⟨w1.heap.size, 10, none⟩ (.int .u64 (x4.epoch : Int))).setCell ⟨w1.heap.size, 11, none⟩ (.int .i64 x4.group)).setCell ⟨w1.heap.size, 12, none⟩ (.int .i64 x4.node)).setCell ⟨w1.heap.size, 13, none⟩ (.bool x4.up)).setCell ⟨w1.heap.size, 14, none⟩ (.int .u64 (x4.id.ver : Int))).setCell ⟨w1.heap.size, 15, none⟩ (.int .i64 x4.id.idx)).setCell ⟨w1.heap.size, 16, none⟩ (.int .u64 (x4.id.ep : Int))).setCell ⟨w1.heap.size, 17, none⟩ (.int .u64 (x4.mep : Int))) w1.heap.size 18 (.slice A4 x4.mem.length c4)))
          have hB : Blk ((((((((((((((((w4.setCell ⟨w1.heap.size, 3, none⟩ (.int .i64 x4.kind)).setCell ⟨w1.heap.size, 4, none⟩ (.int .u64 (x4.client : Int))).setCell ⟨w1.heap.size, 5, none⟩ (.int .u64 (x4.seq : Int))).setCell ⟨w1.heap.size, 6, none⟩ (.string (strOf x4.key))).setCell ⟨w1.heap.size, 7, none⟩ (.int .i64 x4.size)).setCell ⟨w1.heap.size, 8, none⟩ (.int .u32 (x4.sum : Int))).setCell ⟨w1.heap.size, 9, none⟩ (.int .u64 (x4.version : Int))).setCell ⟨w1.heap.size, 10, none⟩ (.int .u64 (x4.epoch : Int))).setCell ⟨w1.heap.size, 11, none⟩ (.int .i64 x4.group)).setCell ⟨w1.heap.size, 12, none⟩ (.int .i64 x4.node)).setCell ⟨w1.heap.size, 13, none⟩ (.bool x4.up)).setCell ⟨w1.heap.size, 14, none⟩ (.int .u64 (x4.id.ver : Int))).setCell ⟨w1.heap.size, 15, none⟩ (.int .i64 x4.id.idx)).setCell ⟨w1.heap.size, 16, none⟩ (.int .u64 (x4.id.ep : Int))).setCell ⟨w1.heap.size, 17, none⟩ (.int .u64 (x4.mep : Int))).setCell ⟨w1.heap.size, 18, none⟩ (.slice A4 x4.mem.length c4)) w1.heap.size 86 #[.int .u64 (x1 : Int), .int .u64 (x2 : Int), .int .i64 x3, .int .i64 x4.kind, .int .u64 (x4.client : Int), .int .u64 (x4.seq : Int), .string (strOf x4.key), .int .i64 x4.size, .int .u32 (x4.sum : Int), .int .u64 (x4.version : Int), .int .u64 (x4.epoch : Int), .int .i64 x4.group, .int .i64 x4.node, .bool x4.up, .int .u64 (x4.id.ver : Int), .int .i64 x4.id.idx, .int .u64 (x4.id.ep : Int), .int .u64 (x4.mep : Int), .slice A4 x4.mem.length c4, .slice none 0 0, .slice none 0 0] := by have := ((((((((((((((((HY.out.set_ 3 (.int .i64 x4.kind)).set_ 4 (.int .u64 (x4.client : Int))).set_ 5 (.int .u64 (x4.seq : Int))).set_ 6 (.string (strOf x4.key))).set_ 7 (.int .i64 x4.size)).set_ 8 (.int .u32 (x4.sum : Int))).set_ 9 (.int .u64 (x4.version : Int))).set_ 10 (.int .u64 (x4.epoch : Int))).set_ 11 (.int .i64 x4.group)).set_ 12 (.int .i64 x4.node)).set_ 13 (.bool x4.up)).set_ 14 (.int .u64 (x4.id.ver : Int))).set_ 15 (.int .i64 x4.id.idx)).set_ 16 (.int .u64 (x4.id.ep : Int))).set_ 17 (.int .u64 (x4.mep : Int))).set_ 18 (.slice A4 x4.mem.length c4)); simpa using this
          rw [ew] at hO hB ⊢
          have L4 := Lh (L4.out.only hO ayL4.out)
          have HX := Lh (hO.blk HX.out (Nat.ne_of_lt HXY.out))
          have HS := Lh (HS.out.only hP.out (by have := HXY.out; omega) hO)
          have HY := Lh hB
          clear ew hO hB fy cy0 cy1 cy2 cy3 cy4 cy5 cy6 cy7 cy8 cy9 cy10 cy11 cy12 cy13 cy14 cy15
          refine (pg_conf g A n cap bs q4 _ (Lh HS.out.pg)).mono ?_
          cases h5 : rConf bs q4 with
          | none =>
            rw [Rd.bind_none h5] at HR
            rintro e w5 ⟨rfl, hk⟩
            refine ⟨rfl, ?_⟩
            rw [HR.out]
            exact RetR.none_ (HS.out.kp.trans hk)
          | some x =>
            obtain ⟨x5, q5⟩ := x
            rw [Rd.bind_some h5] at HR
            rintro e w5 ⟨v, rfl, ⟨A5, c5, D5, d5, rfl, l5, m5, b5⟩, hp, hk⟩
            have axL5 := Lh (l5.apart_lo HX.out.lt)
            have ayL5 := Lh (l5.apart_lo HY.out.lt)
            have L5 := Lh (l5.mono HS.out.kp.size)
            clear l5
            have axM5 := Lh (m5.apart_lo HX.out.lt)
            have ayM5 := Lh (m5.apart_lo HY.out.lt)
            have M5 := Lh (m5.mono HS.out.kp.size)
            clear m5
            have L4 := Lh (L4.out.keep hk HG.out)
            have HX := Lh (hk.notBlk HX.out (by have := HG.out; omega))
            have HY := Lh (hk.notBlk HY.out (by have := HG.out; have := HXY.out; omega))
            have HS := Lh (HS.out.read hp hk)
            clear hp hk
            have cy0 := HY.out.cell 19
            have cy1 := HY.out.cell 20
            have fy := HY.out.frozen
            have hO := ((Only.set_ w5 w1.heap.size 19 (.slice A5 x5.1.length c5)).trans (Only.set_ (w5.setCell ⟨w1.heap.size, 19, none⟩ (.slice A5 x5.1.length c5)) w1.heap.size 20 (.slice D5 x5.2.length d5)))
            have hB : Blk ((w5.setCell ⟨w1.heap.size, 19, none⟩ (.slice A5 x5.1.length c5)).setCell ⟨w1.heap.size, 20, none⟩ (.slice D5 x5.2.length d5)) w1.heap.size 86 #[.int .u64 (x1 : Int), .int .u64 (x2 : Int), .int .i64 x3, .int .i64 x4.kind, .int .u64 (x4.client : Int), .int .u64 (x4.seq : Int), .string (strOf x4.key), .int .i64 x4.size, .int .u32 (x4.sum : Int), .int .u64 (x4.version : Int), .int .u64 (x4.epoch : Int), .int .i64 x4.group, .int .i64 x4.node, .bool x4.up, .int .u64 (x4.id.ver : Int), .int .i64 x4.id.idx, .int .u64 (x4.id.ep : Int), .int .u64 (x4.mep : Int), .slice A4 x4.mem.length c4, .slice A5 x5.1.length c5, .slice D5 x5.2.length d5] := by have := ((HY.out.set_ 19 (.slice A5 x5.1.length c5)).set_ 20 (.slice D5 x5.2.length d5)); simpa using this
            have L4 := Lh (L4.out.only hO ayL4.out)
            have L5 := Lh (L5.out.only hO ayL5.out)
            have M5 := Lh (M5.out.only hO ayM5.out)
            have HX := Lh (hO.blk HX.out (Nat.ne_of_lt HXY.out))
            have HS := Lh (HS.out.only hP.out (by have := HXY.out; omega) hO)
            have HY := Lh hB
            clear hO hB
            go_wp2_with (first | (refine wpl_load_blk rfl 86 (.tmp 3) rfl w1.heap.size 86 _ _ rfl HY.out Tryz.underlying86 rfl Tryz.sizeE ?_) | (refine wpl_store_blk rfl 86 (.tmp 2) (.tmp 19) rfl w.heap.size 86 _ #[.int .u64 (x1 : Int), .int .u64 (x2 : Int), .int .i64 x3, .int .i64 x4.kind, .int .u64 (x4.client : Int), .int .u64 (x4.seq : Int), .string (strOf x4.key), .int .i64 x4.size, .int .u32 (x4.sum : Int), .int .u64 (x4.version : Int), .int .u64 (x4.epoch : Int), .int .i64 x4.group, .int .i64 x4.node, .bool x4.up, .int .u64 (x4.id.ver : Int), .int .i64 x4.id.idx, .int .u64 (x4.id.ep : Int), .int .u64 (x4.mep : Int), .slice A4 x4.mem.length c4, .slice A5 x5.1.length c5, .slice D5 x5.2.length d5] rfl rfl HX.out rfl Tryz.sizeE rfl ?_; intro wf hB hO))
            have HS := Lh (HS.out.only hP.out (by omega) hO.out)
            have L4 := Lh (L4.out.only hO.out axL4.out)
            have L5 := Lh (L5.out.only hO.out axL5.out)
            have M5 := Lh (M5.out.only hO.out axM5.out)
            refine bodyPost_ret (v := .agg #[.int .u64 (x1 : Int), .int .u64 (x2 : Int), .int .i64 x3, .int .i64 x4.kind, .int .u64 (x4.client : Int), .int .u64 (x4.seq : Int), .string (strOf x4.key), .int .i64 x4.size, .int .u32 (x4.sum : Int), .int .u64 (x4.version : Int), .int .u64 (x4.epoch : Int), .int .i64 x4.group, .int .i64 x4.node, .bool x4.up, .int .u64 (x4.id.ver : Int), .int .i64 x4.id.idx, .int .u64 (x4.id.ep : Int), .int .u64 (x4.mep : Int), .slice A4 x4.mem.length c4, .slice A5 x5.1.length c5, .slice D5 x5.2.length d5]) (res_c Tryz.results43 rfl (load_blk hB.out Tryz.underlying86 rfl Tryz.sizeE)) rfl ?_
            rw [HR.out]
            exact RetR.some_ ⟨A4, c4, A5, c5, D5, d5, rfl, L4.out, L5.out, M5.out, ⟨b1, b2, b3, b4, b5.1, b5.2⟩⟩ HS.out.pg HS.out.kp
end Go.Proofs.YtijdbdenmcjmmaaGreatDoor
end
section
namespace Go.Proofs.YtijdbdenmcjmmaaGreatDoor
open Go.RowKit OctMath
set_option linter.unusedVariables false
set_option maxRecDepth 100000 in
theorem bad_asserted (w : World) : (Instr.typeAssert (.iface 153 (.agg #[])) 20 153 true).run Tryz.prog w = .ok (.tuple #[.agg #[], .bool true]) w := by kernel_rfl
set_option maxRecDepth 100000 in
set_option maxHeartbeats 1000000 in
theorem hd_returning (n x y e : Nat) (w : World) :
    CallsD Tryz.prog 74 #[.pointer (some ⟨n, 0, none⟩), .pointer (some ⟨x, 0, none⟩), .pointer (some ⟨y, 0, none⟩), .pointer (some ⟨e, 0, none⟩)] .returning w fun e u' w' => e = .returned (.tuple #[]) ∧ u' = .returning ∧ w = w' := by
  refine callsD_of_wpS Tryz.func74 rfl fun c₀ cs hu => ?_
  apply wpS_seq
  apply wpS_region
  simp [wpOpsS, go_sem, recoverD, hu, Tryz.ntmps74, Exit.thenS]
  refine wpS_of_wp ?_
  go_wp2
  cases c₀
  simp_all [bodyPostS, results, Tryz.results74]
set_option maxRecDepth 100000 in
set_option maxHeartbeats 2000000 in
theorem hd_panicking (n x y e : Nat) (older : List PanicEntry) (w : World) (xs : Array Value) (hN : Hid (Blk w n 32 #[.int .u64 0, .int .i64 0, .int .u64 0, .int .i64 0, .int .i64 0, .int .i64 0, .int .u32 0])) (hX : Hid (Blk w x 32 xs)) (hxs : Hid (xs.size = 7)) (y0 e0 : Value) (hY : Hid (Blk w y 3 #[y0])) (hE : Hid (Blk w e 47 #[e0])) (hxy : x < y) (hye : y < e) :
    CallsD Tryz.prog 74 #[.pointer (some ⟨n, 0, none⟩), .pointer (some ⟨x, 0, none⟩), .pointer (some ⟨y, 0, none⟩), .pointer (some ⟨e, 0, none⟩)] (.panicking ({ v := .iface 153 (.agg #[]), recovered := false } :: older)) w fun o u' w' =>
      o = .returned (.tuple #[]) ∧ u' = .panicking ({ v := .iface 153 (.agg #[]), recovered := true } :: older) ∧ Blk w' x 32 #[.int .u64 0, .int .i64 0, .int .u64 0, .int .i64 0, .int .i64 0, .int .i64 0, .int .u32 0] ∧ Blk w' y 3 #[.int .i64 0] ∧ Blk w' e 47 #[.int .i64 50] ∧ Below x w w' := by
  have hta := bad_asserted
  refine callsD_of_wpS Tryz.func74 rfl fun c₀ cs hu => ?_
  apply wpS_seq
  apply wpS_region
  simp [wpOpsS, go_sem, recoverD, hu, Tryz.ntmps74, Exit.thenS]
  refine wpS_of_wp ?_
  have hxn := Lh hxs.out
  go_wp2_with (first
    | (refine wpl_load_blk rfl 32 (.tmp 0) rfl n 32 #[.int .u64 0, .int .i64 0, .int .u64 0, .int .i64 0, .int .i64 0, .int .i64 0, .int .u32 0] _ rfl (hN.out.alloc _) Tryz.underlying32 rfl Tryz.sizeH ?_)
    | (refine wpl_store_blk rfl 32 (.tmp 1) (.tmp 13) rfl x 32 xs #[.int .u64 0, .int .i64 0, .int .u64 0, .int .i64 0, .int .i64 0, .int .i64 0, .int .u32 0] rfl rfl (hX.out.alloc _) hxs.out Tryz.sizeH rfl ?_; intro w1 hB hO; have hy := hO.out.blk (hY.out.alloc _) (by omega); have he := hO.out.blk (hE.out.alloc _) (by omega); have cy := hy.cell 0; have fy := hy.frozen; have ce := he.cell 0; have fe := he.frozen; have HY := Lh hy; have HE := Lh he; clear hy he))
  obtain ⟨wy, ewy⟩ : ∃ wy, w1.setCell ⟨y, 0, none⟩ (.int .i64 0) = wy := ⟨_, rfl⟩
  have o1 := Only.set_ w1 y 0 (.int .i64 0)
  have y1 : Blk (w1.setCell ⟨y, 0, none⟩ (.int .i64 0)) y 3 #[.int .i64 0] := HY.out.set_ 0 (.int .i64 0)
  rw [ewy] at o1 y1 ⊢
  have x1 := o1.blk hB.out (show x ≠ y by omega)
  have e1 := o1.blk HE.out (show e ≠ y by omega)
  obtain ⟨w2, ew⟩ : ∃ w2, wy.setCell ⟨e, 0, none⟩ (.int .i64 50) = w2 := ⟨_, rfl⟩
  have o2 := Only.set_ wy e 0 (.int .i64 50)
  have e2 : Blk (wy.setCell ⟨e, 0, none⟩ (.int .i64 50)) e 47 #[.int .i64 50] := e1.set_ 0 (.int .i64 50)
  rw [ew] at o2 e2
  have x2 := o2.blk x1 (show x ≠ e by omega)
  have y2 := o2.blk y1 (show y ≠ e by omega)
  have b0 : Below x w (w.alloc (.cells #[] 153)) := (Below.refl x w).alloc (Nat.le_of_lt hX.out.lt) _
  have b1 := b0.trans (hO.out.below (Nat.le_refl x))
  have b2 := b1.trans (o1.below (show x ≤ y by omega))
  have b3 := b2.trans (o2.below (show x ≤ e by omega))
  have HF := Lh (And.intro x2 (And.intro y2 (And.intro e2 b3)))
  rw [ew]
  clear ew ewy o1 y1 x1 e1 o2 e2 x2 y2 b0 b1 b2 b3 hB hO HY HE cy fy ce fe hN hX hY hE
  cases c₀
  simp [bodyPostS, results, Tryz.results74]
  exact HF.out
set_option maxRecDepth 100000 in
set_option maxHeartbeats 1000000 in
theorem conf_returning (n x y e : Nat) (w : World) :
    CallsD Tryz.prog 72 #[.pointer (some ⟨n, 0, none⟩), .pointer (some ⟨x, 0, none⟩), .pointer (some ⟨y, 0, none⟩), .pointer (some ⟨e, 0, none⟩)] .returning w fun e u' w' => e = .returned (.tuple #[]) ∧ u' = .returning ∧ w = w' := by
  refine callsD_of_wpS Tryz.func72 rfl fun c₀ cs hu => ?_
  apply wpS_seq
  apply wpS_region
  simp [wpOpsS, go_sem, recoverD, hu, Tryz.ntmps72, Exit.thenS]
  refine wpS_of_wp ?_
  go_wp2
  cases c₀
  simp_all [bodyPostS, results, Tryz.results72]
set_option maxRecDepth 100000 in
set_option maxHeartbeats 2000000 in
theorem conf_panicking (n x y e : Nat) (older : List PanicEntry) (w : World) (xs : Array Value) (hN : Hid (Blk w n 27 #[.slice none 0 0, .slice none 0 0])) (hX : Hid (Blk w x 27 xs)) (hxs : Hid (xs.size = 2)) (y0 e0 : Value) (hY : Hid (Blk w y 3 #[y0])) (hE : Hid (Blk w e 47 #[e0])) (hxy : x < y) (hye : y < e) :
    CallsD Tryz.prog 72 #[.pointer (some ⟨n, 0, none⟩), .pointer (some ⟨x, 0, none⟩), .pointer (some ⟨y, 0, none⟩), .pointer (some ⟨e, 0, none⟩)] (.panicking ({ v := .iface 153 (.agg #[]), recovered := false } :: older)) w fun o u' w' =>
      o = .returned (.tuple #[]) ∧ u' = .panicking ({ v := .iface 153 (.agg #[]), recovered := true } :: older) ∧ Blk w' x 27 #[.slice none 0 0, .slice none 0 0] ∧ Blk w' y 3 #[.int .i64 0] ∧ Blk w' e 47 #[.int .i64 50] ∧ Below x w w' := by
  have hta := bad_asserted
  refine callsD_of_wpS Tryz.func72 rfl fun c₀ cs hu => ?_
  apply wpS_seq
  apply wpS_region
  simp [wpOpsS, go_sem, recoverD, hu, Tryz.ntmps72, Exit.thenS]
  refine wpS_of_wp ?_
  have hxn := Lh hxs.out
  go_wp2_with (first
    | (refine wpl_load_blk rfl 27 (.tmp 0) rfl n 27 #[.slice none 0 0, .slice none 0 0] _ rfl (hN.out.alloc _) Tryz.underlying27 rfl Tryz.sizeF ?_)
    | (refine wpl_store_blk rfl 27 (.tmp 1) (.tmp 13) rfl x 27 xs #[.slice none 0 0, .slice none 0 0] rfl rfl (hX.out.alloc _) hxs.out Tryz.sizeF rfl ?_; intro w1 hB hO; have hy := hO.out.blk (hY.out.alloc _) (by omega); have he := hO.out.blk (hE.out.alloc _) (by omega); have cy := hy.cell 0; have fy := hy.frozen; have ce := he.cell 0; have fe := he.frozen; have HY := Lh hy; have HE := Lh he; clear hy he))
  obtain ⟨wy, ewy⟩ : ∃ wy, w1.setCell ⟨y, 0, none⟩ (.int .i64 0) = wy := ⟨_, rfl⟩
  have o1 := Only.set_ w1 y 0 (.int .i64 0)
  have y1 : Blk (w1.setCell ⟨y, 0, none⟩ (.int .i64 0)) y 3 #[.int .i64 0] := HY.out.set_ 0 (.int .i64 0)
  rw [ewy] at o1 y1 ⊢
  have x1 := o1.blk hB.out (show x ≠ y by omega)
  have e1 := o1.blk HE.out (show e ≠ y by omega)
  obtain ⟨w2, ew⟩ : ∃ w2, wy.setCell ⟨e, 0, none⟩ (.int .i64 50) = w2 := ⟨_, rfl⟩
  have o2 := Only.set_ wy e 0 (.int .i64 50)
  have e2 : Blk (wy.setCell ⟨e, 0, none⟩ (.int .i64 50)) e 47 #[.int .i64 50] := e1.set_ 0 (.int .i64 50)
  rw [ew] at o2 e2
  have x2 := o2.blk x1 (show x ≠ e by omega)
  have y2 := o2.blk y1 (show y ≠ e by omega)
  have b0 : Below x w (w.alloc (.cells #[] 153)) := (Below.refl x w).alloc (Nat.le_of_lt hX.out.lt) _
  have b1 := b0.trans (hO.out.below (Nat.le_refl x))
  have b2 := b1.trans (o1.below (show x ≤ y by omega))
  have b3 := b2.trans (o2.below (show x ≤ e by omega))
  have HF := Lh (And.intro x2 (And.intro y2 (And.intro e2 b3)))
  rw [ew]
  clear ew ewy o1 y1 x1 e1 o2 e2 x2 y2 b0 b1 b2 b3 hB hO HY HE cy fy ce fe hN hX hY hE
  cases c₀
  simp [bodyPostS, results, Tryz.results72]
  exact HF.out
set_option maxRecDepth 100000 in
set_option maxHeartbeats 1000000 in
theorem ent_returning (n x y e : Nat) (w : World) :
    CallsD Tryz.prog 68 #[.pointer (some ⟨n, 0, none⟩), .pointer (some ⟨x, 0, none⟩), .pointer (some ⟨y, 0, none⟩), .pointer (some ⟨e, 0, none⟩)] .returning w fun e u' w' => e = .returned (.tuple #[]) ∧ u' = .returning ∧ w = w' := by
  refine callsD_of_wpS Tryz.func68 rfl fun c₀ cs hu => ?_
  apply wpS_seq
  apply wpS_region
  simp [wpOpsS, go_sem, recoverD, hu, Tryz.ntmps68, Exit.thenS]
  refine wpS_of_wp ?_
  go_wp2
  cases c₀
  simp_all [bodyPostS, results, Tryz.results68]
set_option maxRecDepth 100000 in
set_option maxHeartbeats 2000000 in
theorem ent_panicking (n x y e : Nat) (older : List PanicEntry) (w : World) (xs : Array Value) (hN : Hid (Blk w n 86 #[.int .u64 0, .int .u64 0, .int .i64 0, .int .i64 0, .int .u64 0, .int .u64 0, .string ⟨#[]⟩, .int .i64 0, .int .u32 0, .int .u64 0, .int .u64 0, .int .i64 0, .int .i64 0, .bool false, .int .u64 0, .int .i64 0, .int .u64 0, .int .u64 0, .slice none 0 0, .slice none 0 0, .slice none 0 0])) (hX : Hid (Blk w x 86 xs)) (hxs : Hid (xs.size = 21)) (y0 e0 : Value) (hY : Hid (Blk w y 3 #[y0])) (hE : Hid (Blk w e 47 #[e0])) (hxy : x < y) (hye : y < e) :
    CallsD Tryz.prog 68 #[.pointer (some ⟨n, 0, none⟩), .pointer (some ⟨x, 0, none⟩), .pointer (some ⟨y, 0, none⟩), .pointer (some ⟨e, 0, none⟩)] (.panicking ({ v := .iface 153 (.agg #[]), recovered := false } :: older)) w fun o u' w' =>
      o = .returned (.tuple #[]) ∧ u' = .panicking ({ v := .iface 153 (.agg #[]), recovered := true } :: older) ∧ Blk w' x 86 #[.int .u64 0, .int .u64 0, .int .i64 0, .int .i64 0, .int .u64 0, .int .u64 0, .string ⟨#[]⟩, .int .i64 0, .int .u32 0, .int .u64 0, .int .u64 0, .int .i64 0, .int .i64 0, .bool false, .int .u64 0, .int .i64 0, .int .u64 0, .int .u64 0, .slice none 0 0, .slice none 0 0, .slice none 0 0] ∧ Blk w' y 3 #[.int .i64 0] ∧ Blk w' e 47 #[.int .i64 50] ∧ Below x w w' := by
  have hta := bad_asserted
  refine callsD_of_wpS Tryz.func68 rfl fun c₀ cs hu => ?_
  apply wpS_seq
  apply wpS_region
  simp [wpOpsS, go_sem, recoverD, hu, Tryz.ntmps68, Exit.thenS]
  refine wpS_of_wp ?_
  have hxn := Lh hxs.out
  go_wp2_with (first
    | (refine wpl_load_blk rfl 86 (.tmp 0) rfl n 86 #[.int .u64 0, .int .u64 0, .int .i64 0, .int .i64 0, .int .u64 0, .int .u64 0, .string ⟨#[]⟩, .int .i64 0, .int .u32 0, .int .u64 0, .int .u64 0, .int .i64 0, .int .i64 0, .bool false, .int .u64 0, .int .i64 0, .int .u64 0, .int .u64 0, .slice none 0 0, .slice none 0 0, .slice none 0 0] _ rfl (hN.out.alloc _) Tryz.underlying86 rfl Tryz.sizeE ?_)
    | (refine wpl_store_blk rfl 86 (.tmp 1) (.tmp 13) rfl x 86 xs #[.int .u64 0, .int .u64 0, .int .i64 0, .int .i64 0, .int .u64 0, .int .u64 0, .string ⟨#[]⟩, .int .i64 0, .int .u32 0, .int .u64 0, .int .u64 0, .int .i64 0, .int .i64 0, .bool false, .int .u64 0, .int .i64 0, .int .u64 0, .int .u64 0, .slice none 0 0, .slice none 0 0, .slice none 0 0] rfl rfl (hX.out.alloc _) hxs.out Tryz.sizeE rfl ?_; intro w1 hB hO; have hy := hO.out.blk (hY.out.alloc _) (by omega); have he := hO.out.blk (hE.out.alloc _) (by omega); have cy := hy.cell 0; have fy := hy.frozen; have ce := he.cell 0; have fe := he.frozen; have HY := Lh hy; have HE := Lh he; clear hy he))
  obtain ⟨wy, ewy⟩ : ∃ wy, w1.setCell ⟨y, 0, none⟩ (.int .i64 0) = wy := ⟨_, rfl⟩
  have o1 := Only.set_ w1 y 0 (.int .i64 0)
  have y1 : Blk (w1.setCell ⟨y, 0, none⟩ (.int .i64 0)) y 3 #[.int .i64 0] := HY.out.set_ 0 (.int .i64 0)
  rw [ewy] at o1 y1 ⊢
  have x1 := o1.blk hB.out (show x ≠ y by omega)
  have e1 := o1.blk HE.out (show e ≠ y by omega)
  obtain ⟨w2, ew⟩ : ∃ w2, wy.setCell ⟨e, 0, none⟩ (.int .i64 50) = w2 := ⟨_, rfl⟩
  have o2 := Only.set_ wy e 0 (.int .i64 50)
  have e2 : Blk (wy.setCell ⟨e, 0, none⟩ (.int .i64 50)) e 47 #[.int .i64 50] := e1.set_ 0 (.int .i64 50)
  rw [ew] at o2 e2
  have x2 := o2.blk x1 (show x ≠ e by omega)
  have y2 := o2.blk y1 (show y ≠ e by omega)
  have b0 : Below x w (w.alloc (.cells #[] 153)) := (Below.refl x w).alloc (Nat.le_of_lt hX.out.lt) _
  have b1 := b0.trans (hO.out.below (Nat.le_refl x))
  have b2 := b1.trans (o1.below (show x ≤ y by omega))
  have b3 := b2.trans (o2.below (show x ≤ e by omega))
  have HF := Lh (And.intro x2 (And.intro y2 (And.intro e2 b3)))
  rw [ew]
  clear ew ewy o1 y1 x1 e1 o2 e2 x2 y2 b0 b1 b2 b3 hB hO HY HE cy fy ce fe hN hX hY hE
  cases c₀
  simp [bodyPostS, results, Tryz.results68]
  exact HF.out
end Go.Proofs.YtijdbdenmcjmmaaGreatDoor
end
