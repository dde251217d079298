/-
  THE PROGRAM'S READER: commands. (printed by gen_par6.py). (joined out of PaR10 by shake.py)
-/
import Derived.Test.YtijdbdenmcjmmaaGreatDoorNen08
import Derived.Test.YtijdbdenmcjmmaaGreatDoorNen07
section
namespace Go.Proofs.YtijdbdenmcjmmaaGreatDoor
open Go.RowKit OctMath
set_option linter.unusedVariables false
theorem Tryz.sizeC : (Tryz.prog.info? 84).map (·.size) = some 16 := by kernel_rfl
def vCmd (lo : Nat) (x : CmdT) (w : World) (v : Value) : Prop := ∃ A c, v = .agg (cmdCs x A c) ∧ Lst lo 2 A c x.mem.length (mcells x.mem) w ∧ CmdOk x
set_option maxRecDepth 100000 in
set_option maxHeartbeats 4000000 in
theorem pg_cmd (g : Nat) (A : Option Addr) (n cap : Nat) (bs : List Nat) (p : Nat) (w : World) (hP : Hid (PG g A n cap bs p w)) :
    Calls Tryz.prog 71 #[.pointer (some ⟨g, 0, none⟩)] w (RetR (rCmd bs p) (vCmd w.heap.size) g A n cap bs w) := by
  have HR := Lh (show rCmd bs p = ((rInt bs).bind fun x1 => (rNum bs).bind fun x2 => (rNum bs).bind fun x3 => (rText bs).bind fun x4 => (rInt bs).bind fun x5 => (rWord bs).bind fun x6 => (rNum bs).bind fun x7 => (rNum bs).bind fun x8 => (rInt bs).bind fun x9 => (rInt bs).bind fun x10 => (rFlag bs).bind fun x11 => (rId bs).bind fun x12 => (rMap bs).bind fun x13 => Rd.pure ⟨x1, x2, x3, x4, x5, x6, x7, x8, x9, x10, x11, x12, x13.1, x13.2⟩) p from rfl)
  obtain ⟨w0, ew0⟩ : ∃ w0, w.alloc (.cells #[.int .i64 0, .int .u64 0, .int .u64 0, .string ⟨#[]⟩, .int .i64 0, .int .u32 0, .int .u64 0, .int .u64 0, .int .i64 0, .int .i64 0, .bool false, .int .u64 0, .int .i64 0, .int .u64 0, .int .u64 0, .slice none 0 0] 84) = w0 := ⟨_, rfl⟩
  have hs := (RS.start hP.out).alloc (.cells #[.int .i64 0, .int .u64 0, .int .u64 0, .string ⟨#[]⟩, .int .i64 0, .int .u32 0, .int .u64 0, .int .u64 0, .int .i64 0, .int .i64 0, .bool false, .int .u64 0, .int .i64 0, .int .u64 0, .int .u64 0, .slice none 0 0] 84)
  have hx : Blk (w.alloc (.cells #[.int .i64 0, .int .u64 0, .int .u64 0, .string ⟨#[]⟩, .int .i64 0, .int .u32 0, .int .u64 0, .int .u64 0, .int .i64 0, .int .i64 0, .bool false, .int .u64 0, .int .i64 0, .int .u64 0, .int .u64 0, .slice none 0 0] 84)) w.heap.size 84 #[.int .i64 0, .int .u64 0, .int .u64 0, .string ⟨#[]⟩, .int .i64 0, .int .u32 0, .int .u64 0, .int .u64 0, .int .i64 0, .int .i64 0, .bool false, .int .u64 0, .int .i64 0, .int .u64 0, .int .u64 0, .slice none 0 0] := by have := Blk.new w 84 #[.int .i64 0, .int .u64 0, .int .u64 0, .string ⟨#[]⟩, .int .i64 0, .int .u32 0, .int .u64 0, .int .u64 0, .int .i64 0, .int .i64 0, .bool false, .int .u64 0, .int .i64 0, .int .u64 0, .int .u64 0, .slice none 0 0]; simpa using this
  rw [ew0] at hs hx
  have HS := Lh hs
  have HX := Lh hx
  have HG := Lh hP.out.blk.lt
  clear hs hx
  go_enter Tryz.func71, Tryz.ntmps71
  go_wp2_with fail
  clear ew0
  refine (pg_int g A n cap bs p _ (Lh HS.out.pg)).mono ?_
  cases h1 : rInt bs p with
  | none =>
    rw [Rd.bind_none h1] at HR
    rintro e w1 ⟨rfl, hk⟩
    refine ⟨rfl, ?_⟩
    rw [HR.out]
    exact RetR.none_ (HS.out.kp.trans hk)
  | some x =>
    obtain ⟨x1, q1⟩ := x
    rw [Rd.bind_some h1] at HR
    rintro e w1 ⟨v, rfl, ⟨rfl, b1⟩, hp, hk⟩
    have HX := Lh (hk.notBlk HX.out (by have := HG.out; omega))
    have HS := Lh (HS.out.read hp hk)
    clear hp hk
    have HXY := Lh HX.out.lt
    go_wp2_with (refine wpl_store_blk rfl 84 (.tmp 3) (.tmp 6) rfl w1.heap.size 84 #[.int .i64 0, .int .u64 0, .int .u64 0, .string ⟨#[]⟩, .int .i64 0, .int .u32 0, .int .u64 0, .int .u64 0, .int .i64 0, .int .i64 0, .bool false, .int .u64 0, .int .i64 0, .int .u64 0, .int .u64 0, .slice none 0 0] #[.int .i64 x1, .int .u64 0, .int .u64 0, .string ⟨#[]⟩, .int .i64 0, .int .u32 0, .int .u64 0, .int .u64 0, .int .i64 0, .int .i64 0, .bool false, .int .u64 0, .int .i64 0, .int .u64 0, .int .u64 0, .slice none 0 0] rfl rfl (Blk.new w1 _ _) rfl Tryz.sizeC rfl ?_; intro wa hB hO)
    have HX := Lh (hO.out.blk (HX.out.alloc _) (Nat.ne_of_lt HXY.out))
    have HS := Lh ((HS.out.alloc _).only hP.out (by have := HXY.out; omega) hO.out)
    have HY := Lh hB.out
    clear hB hO
    refine (pg_number g A n cap bs q1 _ (Lh HS.out.pg)).mono ?_
    cases h2 : rNum bs q1 with
    | none =>
      rw [Rd.bind_none h2] at HR
      rintro e w2 ⟨rfl, hk⟩
      refine ⟨rfl, ?_⟩
      rw [HR.out]
      exact RetR.none_ (HS.out.kp.trans hk)
    | some x =>
      obtain ⟨x2, q2⟩ := x
      rw [Rd.bind_some h2] at HR
      rintro e w2 ⟨v, rfl, ⟨rfl, b2⟩, hp, hk⟩
      have HX := Lh (hk.notBlk HX.out (by have := HG.out; omega))
      have HY := Lh (hk.notBlk HY.out (by have := HG.out; have := HXY.out; omega))
      have HS := Lh (HS.out.read hp hk)
      clear hp hk
      have cy0 := HY.out.cell 1
      have fy := HY.out.frozen
      go_wp2_with fail
      obtain ⟨v2, ew⟩ : ∃ v2, w2.setCell ⟨w1.heap.size, 1, none⟩ (.int .u64 (x2 : Int)) = v2 := ⟨_, rfl⟩
      have hO := (Only.set_ w2 w1.heap.size 1 (.int .u64 (x2 : Int)))
      have hB : Blk (w2.setCell ⟨w1.heap.size, 1, none⟩ (.int .u64 (x2 : Int))) w1.heap.size 84 #[.int .i64 x1, .int .u64 (x2 : Int), .int .u64 0, .string ⟨#[]⟩, .int .i64 0, .int .u32 0, .int .u64 0, .int .u64 0, .int .i64 0, .int .i64 0, .bool false, .int .u64 0, .int .i64 0, .int .u64 0, .int .u64 0, .slice none 0 0] := by have := (HY.out.set_ 1 (.int .u64 (x2 : Int))); simpa using this
      rw [ew] at hO hB ⊢
      have HX := Lh (hO.blk HX.out (Nat.ne_of_lt HXY.out))
      have HS := Lh (HS.out.only hP.out (by have := HXY.out; omega) hO)
      have HY := Lh hB
      clear ew hO hB fy cy0
      refine (pg_number g A n cap bs q2 _ (Lh HS.out.pg)).mono ?_
      cases h3 : rNum bs q2 with
      | none =>
        rw [Rd.bind_none h3] at HR
        rintro e w3 ⟨rfl, hk⟩
        refine ⟨rfl, ?_⟩
        rw [HR.out]
        exact RetR.none_ (HS.out.kp.trans hk)
      | some x =>
        obtain ⟨x3, q3⟩ := x
        rw [Rd.bind_some h3] at HR
        rintro e w3 ⟨v, rfl, ⟨rfl, b3⟩, hp, hk⟩
        have HX := Lh (hk.notBlk HX.out (by have := HG.out; omega))
        have HY := Lh (hk.notBlk HY.out (by have := HG.out; have := HXY.out; omega))
        have HS := Lh (HS.out.read hp hk)
        clear hp hk
        have cy0 := HY.out.cell 2
        have fy := HY.out.frozen
        go_wp2_with fail
        obtain ⟨v3, ew⟩ : ∃ v3, w3.setCell ⟨w1.heap.size, 2, none⟩ (.int .u64 (x3 : Int)) = v3 := ⟨_, rfl⟩
        have hO := (Only.set_ w3 w1.heap.size 2 (.int .u64 (x3 : Int)))
        have hB : Blk (w3.setCell ⟨w1.heap.size, 2, none⟩ (.int .u64 (x3 : Int))) w1.heap.size 84 #[.int .i64 x1, .int .u64 (x2 : Int), .int .u64 (x3 : Int), .string ⟨#[]⟩, .int .i64 0, .int .u32 0, .int .u64 0, .int .u64 0, .int .i64 0, .int .i64 0, .bool false, .int .u64 0, .int .i64 0, .int .u64 0, .int .u64 0, .slice none 0 0] := by have := (HY.out.set_ 2 (.int .u64 (x3 : Int))); simpa using this
        rw [ew] at hO hB ⊢
        have HX := Lh (hO.blk HX.out (Nat.ne_of_lt HXY.out))
        have HS := Lh (HS.out.only hP.out (by have := HXY.out; omega) hO)
        have HY := Lh hB
        clear ew hO hB fy cy0
        refine (pg_text g A n cap bs q3 _ (Lh HS.out.pg)).mono ?_
        cases h4 : rText bs q3 with
        | none =>
          rw [Rd.bind_none h4] at HR
          rintro e w4 ⟨rfl, hk⟩
          refine ⟨rfl, ?_⟩
          rw [HR.out]
          exact RetR.none_ (HS.out.kp.trans hk)
        | some x =>
          obtain ⟨x4, q4⟩ := x
          rw [Rd.bind_some h4] at HR
          rintro e w4 ⟨v, rfl, ⟨rfl, b4⟩, hp, hk⟩
          have HX := Lh (hk.notBlk HX.out (by have := HG.out; omega))
          have HY := Lh (hk.notBlk HY.out (by have := HG.out; have := HXY.out; omega))
          have HS := Lh (HS.out.read hp hk)
          clear hp hk
          have cy0 := HY.out.cell 3
          have fy := HY.out.frozen
          go_wp2_with fail
          obtain ⟨v4, ew⟩ : ∃ v4, w4.setCell ⟨w1.heap.size, 3, none⟩ (.string (strOf x4)) = v4 := ⟨_, rfl⟩
          have hO := (Only.set_ w4 w1.heap.size 3 (.string (strOf x4)))
          have hB : Blk (w4.setCell ⟨w1.heap.size, 3, none⟩ (.string (strOf x4))) w1.heap.size 84 #[.int .i64 x1, .int .u64 (x2 : Int), .int .u64 (x3 : Int), .string (strOf x4), .int .i64 0, .int .u32 0, .int .u64 0, .int .u64 0, .int .i64 0, .int .i64 0, .bool false, .int .u64 0, .int .i64 0, .int .u64 0, .int .u64 0, .slice none 0 0] := by have := (HY.out.set_ 3 (.string (strOf x4))); simpa using this
          rw [ew] at hO hB ⊢
          have HX := Lh (hO.blk HX.out (Nat.ne_of_lt HXY.out))
          have HS := Lh (HS.out.only hP.out (by have := HXY.out; omega) hO)
          have HY := Lh hB
          clear ew hO hB fy cy0
          refine (pg_int g A n cap bs q4 _ (Lh HS.out.pg)).mono ?_
          cases h5 : rInt bs q4 with
          | none =>
            rw [Rd.bind_none h5] at HR
            rintro e w5 ⟨rfl, hk⟩
            refine ⟨rfl, ?_⟩
            rw [HR.out]
            exact RetR.none_ (HS.out.kp.trans hk)
          | some x =>
            obtain ⟨x5, q5⟩ := x
            rw [Rd.bind_some h5] at HR
            rintro e w5 ⟨v, rfl, ⟨rfl, b5⟩, hp, hk⟩
            have HX := Lh (hk.notBlk HX.out (by have := HG.out; omega))
            have HY := Lh (hk.notBlk HY.out (by have := HG.out; have := HXY.out; omega))
            have HS := Lh (HS.out.read hp hk)
            clear hp hk
            have cy0 := HY.out.cell 4
            have fy := HY.out.frozen
            go_wp2_with fail
            obtain ⟨v5, ew⟩ : ∃ v5, w5.setCell ⟨w1.heap.size, 4, none⟩ (.int .i64 x5) = v5 := ⟨_, rfl⟩
            have hO := (Only.set_ w5 w1.heap.size 4 (.int .i64 x5))
            have hB : Blk (w5.setCell ⟨w1.heap.size, 4, none⟩ (.int .i64 x5)) w1.heap.size 84 #[.int .i64 x1, .int .u64 (x2 : Int), .int .u64 (x3 : Int), .string (strOf x4), .int .i64 x5, .int .u32 0, .int .u64 0, .int .u64 0, .int .i64 0, .int .i64 0, .bool false, .int .u64 0, .int .i64 0, .int .u64 0, .int .u64 0, .slice none 0 0] := by have := (HY.out.set_ 4 (.int .i64 x5)); simpa using this
            rw [ew] at hO hB ⊢
            have HX := Lh (hO.blk HX.out (Nat.ne_of_lt HXY.out))
            have HS := Lh (HS.out.only hP.out (by have := HXY.out; omega) hO)
            have HY := Lh hB
            clear ew hO hB fy cy0
            refine (pg_word g A n cap bs q5 _ (Lh HS.out.pg)).mono ?_
            cases h6 : rWord bs q5 with
            | none =>
              rw [Rd.bind_none h6] at HR
              rintro e w6 ⟨rfl, hk⟩
              refine ⟨rfl, ?_⟩
              rw [HR.out]
              exact RetR.none_ (HS.out.kp.trans hk)
            | some x =>
              obtain ⟨x6, q6⟩ := x
              rw [Rd.bind_some h6] at HR
              rintro e w6 ⟨v, rfl, ⟨rfl, b6⟩, hp, hk⟩
              have HX := Lh (hk.notBlk HX.out (by have := HG.out; omega))
              have HY := Lh (hk.notBlk HY.out (by have := HG.out; have := HXY.out; omega))
              have HS := Lh (HS.out.read hp hk)
              clear hp hk
              have cy0 := HY.out.cell 5
              have fy := HY.out.frozen
              go_wp2_with fail
              obtain ⟨v6, ew⟩ : ∃ v6, w6.setCell ⟨w1.heap.size, 5, none⟩ (.int .u32 (x6 : Int)) = v6 := ⟨_, rfl⟩
              have hO := (Only.set_ w6 w1.heap.size 5 (.int .u32 (x6 : Int)))
              have hB : Blk (w6.setCell ⟨w1.heap.size, 5, none⟩ (.int .u32 (x6 : Int))) w1.heap.size 84 #[.int .i64 x1, .int .u64 (x2 : Int), .int .u64 (x3 : Int), .string (strOf x4), .int .i64 x5, .int .u32 (x6 : Int), .int .u64 0, .int .u64 0, .int .i64 0, .int .i64 0, .bool false, .int .u64 0, .int .i64 0, .int .u64 0, .int .u64 0, .slice none 0 0] := by have := (HY.out.set_ 5 (.int .u32 (x6 : Int))); simpa using this
              rw [ew] at hO hB ⊢
              have HX := Lh (hO.blk HX.out (Nat.ne_of_lt HXY.out))
              have HS := Lh (HS.out.only hP.out (by have := HXY.out; omega) hO)
              have HY := Lh hB
              clear ew hO hB fy cy0
              refine (pg_number g A n cap bs q6 _ (Lh HS.out.pg)).mono ?_
              cases h7 : rNum bs q6 with
              | none =>
                rw [Rd.bind_none h7] at HR
                rintro e w7 ⟨rfl, hk⟩
                refine ⟨rfl, ?_⟩
                rw [HR.out]
                exact RetR.none_ (HS.out.kp.trans hk)
              | some x =>
                obtain ⟨x7, q7⟩ := x
                rw [Rd.bind_some h7] at HR
                rintro e w7 ⟨v, rfl, ⟨rfl, b7⟩, hp, hk⟩
                have HX := Lh (hk.notBlk HX.out (by have := HG.out; omega))
                have HY := Lh (hk.notBlk HY.out (by have := HG.out; have := HXY.out; omega))
                have HS := Lh (HS.out.read hp hk)
                clear hp hk
                have cy0 := HY.out.cell 6
                have fy := HY.out.frozen
                go_wp2_with fail
                obtain ⟨v7, ew⟩ : ∃ v7, w7.setCell ⟨w1.heap.size, 6, none⟩ (.int .u64 (x7 : Int)) = v7 := ⟨_, rfl⟩
                have hO := (Only.set_ w7 w1.heap.size 6 (.int .u64 (x7 : Int)))
                have hB : Blk (w7.setCell ⟨w1.heap.size, 6, none⟩ (.int .u64 (x7 : Int))) w1.heap.size 84 #[.int .i64 x1, .int .u64 (x2 : Int), .int .u64 (x3 : Int), .string (strOf x4), .int .i64 x5, .int .u32 (x6 : Int), .int .u64 (x7 : Int), .int .u64 0, .int .i64 0, .int .i64 0, .bool false, .int .u64 0, .int .i64 0, .int .u64 0, .int .u64 0, .slice none 0 0] := by have := (HY.out.set_ 6 (.int .u64 (x7 : Int))); simpa using this
                rw [ew] at hO hB ⊢
                have HX := Lh (hO.blk HX.out (Nat.ne_of_lt HXY.out))
                have HS := Lh (HS.out.only hP.out (by have := HXY.out; omega) hO)
                have HY := Lh hB
                clear ew hO hB fy cy0
                refine (pg_number g A n cap bs q7 _ (Lh HS.out.pg)).mono ?_
                cases h8 : rNum bs q7 with
                | none =>
                  rw [Rd.bind_none h8] at HR
                  rintro e w8 ⟨rfl, hk⟩
                  refine ⟨rfl, ?_⟩
                  rw [HR.out]
                  exact RetR.none_ (HS.out.kp.trans hk)
                | some x =>
                  obtain ⟨x8, q8⟩ := x
                  rw [Rd.bind_some h8] at HR
                  rintro e w8 ⟨v, rfl, ⟨rfl, b8⟩, hp, hk⟩
                  have HX := Lh (hk.notBlk HX.out (by have := HG.out; omega))
                  have HY := Lh (hk.notBlk HY.out (by have := HG.out; have := HXY.out; omega))
                  have HS := Lh (HS.out.read hp hk)
                  clear hp hk
                  have cy0 := HY.out.cell 7
                  have fy := HY.out.frozen
                  go_wp2_with fail
                  obtain ⟨v8, ew⟩ : ∃ v8, w8.setCell ⟨w1.heap.size, 7, none⟩ (.int .u64 (x8 : Int)) = v8 := ⟨_, rfl⟩
                  have hO := (Only.set_ w8 w1.heap.size 7 (.int .u64 (x8 : Int)))
                  have hB : Blk (w8.setCell ⟨w1.heap.size, 7, none⟩ (.int .u64 (x8 : Int))) w1.heap.size 84 #[.int .i64 x1, .int .u64 (x2 : Int), .int .u64 (x3 : Int), .string (strOf x4), .int .i64 x5, .int .u32 (x6 : Int), .int .u64 (x7 : Int), .int .u64 (x8 : Int), .int .i64 0, .int .i64 0, .bool false, .int .u64 0, .int .i64 0, .int .u64 0, .int .u64 0, .slice none 0 0] := by have := (HY.out.set_ 7 (.int .u64 (x8 : Int))); simpa using this
                  rw [ew] at hO hB ⊢
                  have HX := Lh (hO.blk HX.out (Nat.ne_of_lt HXY.out))
                  have HS := Lh (HS.out.only hP.out (by have := HXY.out; omega) hO)
                  have HY := Lh hB
                  clear ew hO hB fy cy0
                  refine (pg_int g A n cap bs q8 _ (Lh HS.out.pg)).mono ?_
                  cases h9 : rInt bs q8 with
                  | none =>
                    rw [Rd.bind_none h9] at HR
                    rintro e w9 ⟨rfl, hk⟩
                    refine ⟨rfl, ?_⟩
                    rw [HR.out]
                    exact RetR.none_ (HS.out.kp.trans hk)
                  | some x =>
                    obtain ⟨x9, q9⟩ := x
                    rw [Rd.bind_some h9] at HR
                    rintro e w9 ⟨v, rfl, ⟨rfl, b9⟩, hp, hk⟩
                    have HX := Lh (hk.notBlk HX.out (by have := HG.out; omega))
                    have HY := Lh (hk.notBlk HY.out (by have := HG.out; have := HXY.out; omega))
                    have HS := Lh (HS.out.read hp hk)
                    clear hp hk
                    have cy0 := HY.out.cell 8
                    have fy := HY.out.frozen
                    go_wp2_with fail
                    obtain ⟨v9, ew⟩ : ∃ v9, w9.setCell ⟨w1.heap.size, 8, none⟩ (.int .i64 x9) = v9 := ⟨_, rfl⟩
                    have hO := (Only.set_ w9 w1.heap.size 8 (.int .i64 x9))
                    have hB : Blk (w9.setCell ⟨w1.heap.size, 8, none⟩ (.int .i64 x9)) w1.heap.size 84 #[.int .i64 x1, .int .u64 (x2 : Int), .int .u64 (x3 : Int), .string (strOf x4), .int .i64 x5, .int .u32 (x6 : Int), .int .u64 (x7 : Int), .int .u64 (x8 : Int), .int .i64 x9, .int .i64 0, .bool false, .int .u64 0, .int .i64 0, .int .u64 0, .int .u64 0, .slice none 0 0] := by have := (HY.out.set_ 8 (.int .i64 x9)); simpa using this
                    rw [ew] at hO hB ⊢
                    have HX := Lh (hO.blk HX.out (Nat.ne_of_lt HXY.out))
                    have HS := Lh (HS.out.only hP.out (by have := HXY.out; omega) hO)
                    have HY := Lh hB
                    clear ew hO hB fy cy0
                    refine (pg_int g A n cap bs q9 _ (Lh HS.out.pg)).mono ?_
                    cases h10 : rInt bs q9 with
                    | none =>
                      rw [Rd.bind_none h10] at HR
                      rintro e w10 ⟨rfl, hk⟩
                      refine ⟨rfl, ?_⟩
                      rw [HR.out]
                      exact RetR.none_ (HS.out.kp.trans hk)
                    | some x =>
                      obtain ⟨x10, q10⟩ := x
                      rw [Rd.bind_some h10] at HR
                      rintro e w10 ⟨v, rfl, ⟨rfl, b10⟩, hp, hk⟩
                      have HX := Lh (hk.notBlk HX.out (by have := HG.out; omega))
                      have HY := Lh (hk.notBlk HY.out (by have := HG.out; have := HXY.out; omega))
                      have HS := Lh (HS.out.read hp hk)
                      clear hp hk
                      have cy0 := HY.out.cell 9
                      have fy := HY.out.frozen
                      go_wp2_with fail
                      obtain ⟨v10, ew⟩ : ∃ v10, w10.setCell ⟨w1.heap.size, 9, none⟩ (.int .i64 x10) = v10 := ⟨_, rfl⟩
                      have hO := (Only.set_ w10 w1.heap.size 9 (.int .i64 x10))
                      have hB : Blk (w10.setCell ⟨w1.heap.size, 9, none⟩ (.int .i64 x10)) w1.heap.size 84 #[.int .i64 x1, .int .u64 (x2 : Int), .int .u64 (x3 : Int), .string (strOf x4), .int .i64 x5, .int .u32 (x6 : Int), .int .u64 (x7 : Int), .int .u64 (x8 : Int), .int .i64 x9, .int .i64 x10, .bool false, .int .u64 0, .int .i64 0, .int .u64 0, .int .u64 0, .slice none 0 0] := by have := (HY.out.set_ 9 (.int .i64 x10)); simpa using this
                      rw [ew] at hO hB ⊢
                      have HX := Lh (hO.blk HX.out (Nat.ne_of_lt HXY.out))
                      have HS := Lh (HS.out.only hP.out (by have := HXY.out; omega) hO)
                      have HY := Lh hB
                      clear ew hO hB fy cy0
                      refine (pg_flag g A n cap bs q10 _ (Lh HS.out.pg)).mono ?_
                      cases h11 : rFlag bs q10 with
                      | none =>
                        rw [Rd.bind_none h11] at HR
                        rintro e w11 ⟨rfl, hk⟩
                        refine ⟨rfl, ?_⟩
                        rw [HR.out]
                        exact RetR.none_ (HS.out.kp.trans hk)
                      | some x =>
                        obtain ⟨x11, q11⟩ := x
                        rw [Rd.bind_some h11] at HR
                        rintro e w11 ⟨v, rfl, rfl, hp, hk⟩
                        have HX := Lh (hk.notBlk HX.out (by have := HG.out; omega))
                        have HY := Lh (hk.notBlk HY.out (by have := HG.out; have := HXY.out; omega))
                        have HS := Lh (HS.out.read hp hk)
                        clear hp hk
                        have cy0 := HY.out.cell 10
                        have fy := HY.out.frozen
                        go_wp2_with fail
                        obtain ⟨v11, ew⟩ : ∃ v11, w11.setCell ⟨w1.heap.size, 10, none⟩ (.bool x11) = v11 := ⟨_, rfl⟩
                        have hO := (Only.set_ w11 w1.heap.size 10 (.bool x11))
                        have hB : Blk (w11.setCell ⟨w1.heap.size, 10, none⟩ (.bool x11)) w1.heap.size 84 #[.int .i64 x1, .int .u64 (x2 : Int), .int .u64 (x3 : Int), .string (strOf x4), .int .i64 x5, .int .u32 (x6 : Int), .int .u64 (x7 : Int), .int .u64 (x8 : Int), .int .i64 x9, .int .i64 x10, .bool x11, .int .u64 0, .int .i64 0, .int .u64 0, .int .u64 0, .slice none 0 0] := by have := (HY.out.set_ 10 (.bool x11)); simpa using this
                        rw [ew] at hO hB ⊢
                        have HX := Lh (hO.blk HX.out (Nat.ne_of_lt HXY.out))
                        have HS := Lh (HS.out.only hP.out (by have := HXY.out; omega) hO)
                        have HY := Lh hB
                        clear ew hO hB fy cy0
                        refine (pg_id g A n cap bs q11 _ (Lh HS.out.pg)).mono ?_
                        cases h12 : rId bs q11 with
                        | none =>
                          rw [Rd.bind_none h12] at HR
                          rintro e w12 ⟨rfl, hk⟩
                          refine ⟨rfl, ?_⟩
                          rw [HR.out]
                          exact RetR.none_ (HS.out.kp.trans hk)
                        | some x =>
                          obtain ⟨x12, q12⟩ := x
                          rw [Rd.bind_some h12] at HR
                          rintro e w12 ⟨v, rfl, ⟨rfl, b12⟩, hp, hk⟩
                          have HX := Lh (hk.notBlk HX.out (by have := HG.out; omega))
                          have HY := Lh (hk.notBlk HY.out (by have := HG.out; have := HXY.out; omega))
                          have HS := Lh (HS.out.read hp hk)
                          clear hp hk
                          have cy0 := HY.out.cell 11
                          have cy1 := HY.out.cell 12
                          have cy2 := HY.out.cell 13
                          have fy := HY.out.frozen
                          go_wp2_with fail
                          obtain ⟨v12, ew⟩ : ∃ v12, ((w12.setCell ⟨w1.heap.size, 11, none⟩ (.int .u64 (x12.ver : Int))).setCell ⟨w1.heap.size, 12, none⟩ (.int .i64 x12.idx)).setCell ⟨w1.heap.size, 13, none⟩ (.int .u64 (x12.ep : Int)) = v12 := ⟨_, rfl⟩
                          have hO := (((Only.set_ w12 w1.heap.size 11 (.int .u64 (x12.ver : Int))).trans (Only.set_ (w12.setCell ⟨w1.heap.size, 11, none⟩ (.int .u64 (x12.ver : Int))) w1.heap.size 12 (.int .i64 x12.idx))).trans (Only.set_ ((w12.setCell ⟨w1.heap.size, 11, none⟩ (.int .u64 (x12.ver : Int))).setCell ⟨w1.heap.size, 12, none⟩ (.int .i64 x12.idx)) w1.heap.size 13 (.int .u64 (x12.ep : Int))))
                          have hB : Blk (((w12.setCell ⟨w1.heap.size, 11, none⟩ (.int .u64 (x12.ver : Int))).setCell ⟨w1.heap.size, 12, none⟩ (.int .i64 x12.idx)).setCell ⟨w1.heap.size, 13, none⟩ (.int .u64 (x12.ep : Int))) w1.heap.size 84 #[.int .i64 x1, .int .u64 (x2 : Int), .int .u64 (x3 : Int), .string (strOf x4), .int .i64 x5, .int .u32 (x6 : Int), .int .u64 (x7 : Int), .int .u64 (x8 : Int), .int .i64 x9, .int .i64 x10, .bool x11, .int .u64 (x12.ver : Int), .int .i64 x12.idx, .int .u64 (x12.ep : Int), .int .u64 0, .slice none 0 0] := by have := (((HY.out.set_ 11 (.int .u64 (x12.ver : Int))).set_ 12 (.int .i64 x12.idx)).set_ 13 (.int .u64 (x12.ep : Int))); simpa using this
                          rw [ew] at hO hB ⊢
                          have HX := Lh (hO.blk HX.out (Nat.ne_of_lt HXY.out))
                          have HS := Lh (HS.out.only hP.out (by have := HXY.out; omega) hO)
                          have HY := Lh hB
                          clear ew hO hB fy cy0 cy1 cy2
                          refine (pg_map g A n cap bs q12 _ (Lh HS.out.pg)).mono ?_
                          cases h13 : rMap bs q12 with
                          | none =>
                            rw [Rd.bind_none h13] at HR
                            rintro e w13 ⟨rfl, hk⟩
                            refine ⟨rfl, ?_⟩
                            rw [HR.out]
                            exact RetR.none_ (HS.out.kp.trans hk)
                          | some x =>
                            obtain ⟨x13, q13⟩ := x
                            rw [Rd.bind_some h13] at HR
                            rintro e w13 ⟨v, rfl, ⟨A13, c13, rfl, l13, b13⟩, hp, hk⟩
                            have axL13 := Lh (l13.apart_lo HX.out.lt)
                            have ayL13 := Lh (l13.apart_lo HY.out.lt)
                            have L13 := Lh (l13.mono HS.out.kp.size)
                            clear l13
                            have HX := Lh (hk.notBlk HX.out (by have := HG.out; omega))
                            have HY := Lh (hk.notBlk HY.out (by have := HG.out; have := HXY.out; omega))
                            have HS := Lh (HS.out.read hp hk)
                            clear hp hk
                            have cy0 := HY.out.cell 14
                            have cy1 := HY.out.cell 15
                            have fy := HY.out.frozen
                            have hO := ((Only.set_ w13 w1.heap.size 14 (.int .u64 (x13.1 : Int))).trans (Only.set_ (w13.setCell ⟨w1.heap.size, 14, none⟩ (.int .u64 (x13.1 : Int))) w1.heap.size 15 (.slice A13 x13.2.length c13)))
                            have hB : Blk ((w13.setCell ⟨w1.heap.size, 14, none⟩ (.int .u64 (x13.1 : Int))).setCell ⟨w1.heap.size, 15, none⟩ (.slice A13 x13.2.length c13)) w1.heap.size 84 #[.int .i64 x1, .int .u64 (x2 : Int), .int .u64 (x3 : Int), .string (strOf x4), .int .i64 x5, .int .u32 (x6 : Int), .int .u64 (x7 : Int), .int .u64 (x8 : Int), .int .i64 x9, .int .i64 x10, .bool x11, .int .u64 (x12.ver : Int), .int .i64 x12.idx, .int .u64 (x12.ep : Int), .int .u64 (x13.1 : Int), .slice A13 x13.2.length c13] := by have := ((HY.out.set_ 14 (.int .u64 (x13.1 : Int))).set_ 15 (.slice A13 x13.2.length c13)); simpa using this
                            have L13 := Lh (L13.out.only hO ayL13.out)
                            have HX := Lh (hO.blk HX.out (Nat.ne_of_lt HXY.out))
                            have HS := Lh (HS.out.only hP.out (by have := HXY.out; omega) hO)
                            have HY := Lh hB
                            clear hO hB
                            go_wp2_with (first | (refine wpl_load_blk rfl 84 (.tmp 3) rfl w1.heap.size 84 _ _ rfl HY.out Tryz.underlying84 rfl Tryz.sizeC ?_) | (refine wpl_store_blk rfl 84 (.tmp 2) (.tmp 43) rfl w.heap.size 84 _ #[.int .i64 x1, .int .u64 (x2 : Int), .int .u64 (x3 : Int), .string (strOf x4), .int .i64 x5, .int .u32 (x6 : Int), .int .u64 (x7 : Int), .int .u64 (x8 : Int), .int .i64 x9, .int .i64 x10, .bool x11, .int .u64 (x12.ver : Int), .int .i64 x12.idx, .int .u64 (x12.ep : Int), .int .u64 (x13.1 : Int), .slice A13 x13.2.length c13] rfl rfl HX.out rfl Tryz.sizeC rfl ?_; intro wf hB hO))
                            have HS := Lh (HS.out.only hP.out (by omega) hO.out)
                            have L13 := Lh (L13.out.only hO.out axL13.out)
                            refine bodyPost_ret (v := .agg #[.int .i64 x1, .int .u64 (x2 : Int), .int .u64 (x3 : Int), .string (strOf x4), .int .i64 x5, .int .u32 (x6 : Int), .int .u64 (x7 : Int), .int .u64 (x8 : Int), .int .i64 x9, .int .i64 x10, .bool x11, .int .u64 (x12.ver : Int), .int .i64 x12.idx, .int .u64 (x12.ep : Int), .int .u64 (x13.1 : Int), .slice A13 x13.2.length c13]) (res_c Tryz.results71 rfl (load_blk hB.out Tryz.underlying84 rfl Tryz.sizeC)) rfl ?_
                            rw [HR.out]
                            exact RetR.some_ ⟨A13, c13, rfl, L13.out, ⟨b1, b2, b3, b4, b5, b6, b7, b8, b9, b10, b12, b13⟩⟩ HS.out.pg HS.out.kp
end Go.Proofs.YtijdbdenmcjmmaaGreatDoor
end
