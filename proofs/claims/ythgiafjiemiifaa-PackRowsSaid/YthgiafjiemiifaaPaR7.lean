/-
  THE PROGRAM'S READER: heads. (printed by gen_par6.py)
-/
import Derived.Test.YthgiafjiemiifaaPaR6
namespace Go.Proofs.Ythgiafjiemiifaa
open Go.RowKit OctMath
set_option linter.unusedVariables false
theorem Try.sizeH : (Try.prog.info? 28).map (·.size) = some 7 := by kernel_rfl
/-- The ranges of a head. -/
structure HdOk (h : HdT) : Prop where
  ver : h.id.ver < 18446744073709551616
  idx : -9223372036854775808 ≤ h.id.idx ∧ h.id.idx ≤ 9223372036854775807
  ep : h.id.ep < 18446744073709551616
  k : -9223372036854775808 ≤ h.k ∧ h.k ≤ 9223372036854775807
  n : -9223372036854775808 ≤ h.n ∧ h.n ≤ 9223372036854775807
  size : -9223372036854775808 ≤ h.size ∧ h.size ≤ 9223372036854775807
  sum : h.sum < 4294967296
def vHd (h : HdT) (_ : World) (v : Value) : Prop := v = .agg #[.int .u64 (h.id.ver : Int), .int .i64 h.id.idx, .int .u64 (h.id.ep : Int), .int .i64 h.k, .int .i64 h.n, .int .i64 h.size, .int .u32 (h.sum : Int)] ∧ HdOk h
set_option maxRecDepth 100000 in
set_option maxHeartbeats 4000000 in
theorem pg_header (g : Nat) (A : Option Addr) (n cap : Nat) (bs : List Nat) (p : Nat) (w : World) (hP : Hid (PG g A n cap bs p w)) :
    Calls Try.prog 26 #[.pointer (some ⟨g, 0, none⟩)] w (RetR (rHd bs p) vHd g A n cap bs w) := by
  have HR := Lib.hid (show rHd bs p = ((rId bs).bind fun d => (rInt bs).bind fun k => (rInt bs).bind fun n => (rInt bs).bind fun s => (rWord bs).bind fun m => Rd.pure ⟨d, k, n, s, m⟩) p from rfl)
  obtain ⟨w0, ew0⟩ : ∃ w0, w.alloc (.cells #[.int .u64 0, .int .i64 0, .int .u64 0, .int .i64 0, .int .i64 0, .int .i64 0, .int .u32 0] 28) = w0 := ⟨_, rfl⟩
  have hs := (RS.start hP.out).alloc (.cells #[.int .u64 0, .int .i64 0, .int .u64 0, .int .i64 0, .int .i64 0, .int .i64 0, .int .u32 0] 28)
  have hx : Blk (w.alloc (.cells #[.int .u64 0, .int .i64 0, .int .u64 0, .int .i64 0, .int .i64 0, .int .i64 0, .int .u32 0] 28)) w.heap.size 28 #[.int .u64 0, .int .i64 0, .int .u64 0, .int .i64 0, .int .i64 0, .int .i64 0, .int .u32 0] := by have := Blk.new w 28 #[.int .u64 0, .int .i64 0, .int .u64 0, .int .i64 0, .int .i64 0, .int .i64 0, .int .u32 0]; simpa using this
  rw [ew0] at hs hx
  have HS := Lib.hid hs
  have HX := Lib.hid hx
  have HG := Lib.hid hP.out.blk.lt
  clear hs hx
  go_enter Try.func26, Try.ntmps26
  go_wp2_with fail
  clear ew0
  refine (pg_id g A n cap bs p _ (Lib.hid HS.out.pg)).mono ?_
  cases h1 : rId bs p with
  | none =>
    rw [Rd.bind_none h1] at HR
    rintro e w1 ⟨rfl, hk⟩
    refine ⟨rfl, ?_⟩
    rw [HR.out]
    exact RetR.none_ (HS.out.kp.trans hk)
  | some x =>
    obtain ⟨x1, q1⟩ := x
    rw [Rd.bind_some h1] at HR
    rintro e w1 ⟨v, rfl, ⟨rfl, b1⟩, hp, hk⟩
    have HX := Lib.hid (hk.notBlk HX.out (by have := HG.out; omega))
    have HS := Lib.hid (HS.out.read hp hk)
    clear hp hk
    have HXY := Lib.hid HX.out.lt
    go_wp2_with (refine wpl_store_blk rfl 28 (.tmp 3) (.tmp 6) rfl w1.heap.size 28 #[.int .u64 0, .int .i64 0, .int .u64 0, .int .i64 0, .int .i64 0, .int .i64 0, .int .u32 0] #[.int .u64 (x1.ver : Int), .int .i64 x1.idx, .int .u64 (x1.ep : Int), .int .i64 0, .int .i64 0, .int .i64 0, .int .u32 0] rfl rfl (Blk.new w1 _ _) rfl Try.sizeH rfl ?_; intro wa hB hO)
    have HX := Lib.hid (hO.out.blk (HX.out.alloc _) (Nat.ne_of_lt HXY.out))
    have HS := Lib.hid ((HS.out.alloc _).only hP.out (by have := HXY.out; omega) hO.out)
    have HY := Lib.hid hB.out
    clear hB hO
    refine (pg_int g A n cap bs q1 _ (Lib.hid HS.out.pg)).mono ?_
    cases h2 : rInt bs q1 with
    | none =>
      rw [Rd.bind_none h2] at HR
      rintro e w2 ⟨rfl, hk⟩
      refine ⟨rfl, ?_⟩
      rw [HR.out]
      exact RetR.none_ (HS.out.kp.trans hk)
    | some x =>
      obtain ⟨x2, q2⟩ := x
      rw [Rd.bind_some h2] at HR
      rintro e w2 ⟨v, rfl, ⟨rfl, b2⟩, hp, hk⟩
      have HX := Lib.hid (hk.notBlk HX.out (by have := HG.out; omega))
      have HY := Lib.hid (hk.notBlk HY.out (by have := HG.out; have := HXY.out; omega))
      have HS := Lib.hid (HS.out.read hp hk)
      clear hp hk
      have cy0 := HY.out.cell 3
      have fy := HY.out.frozen
      go_wp2_with fail
      obtain ⟨v2, ew⟩ : ∃ v2, w2.setCell ⟨w1.heap.size, 3, none⟩ (.int .i64 x2) = v2 := ⟨_, rfl⟩
      have hO := (Only.set_ w2 w1.heap.size 3 (.int .i64 x2))
      have hB : Blk (w2.setCell ⟨w1.heap.size, 3, none⟩ (.int .i64 x2)) w1.heap.size 28 #[.int .u64 (x1.ver : Int), .int .i64 x1.idx, .int .u64 (x1.ep : Int), .int .i64 x2, .int .i64 0, .int .i64 0, .int .u32 0] := by have := (HY.out.set_ 3 (.int .i64 x2)); simpa using this
      rw [ew] at hO hB ⊢
      have HX := Lib.hid (hO.blk HX.out (Nat.ne_of_lt HXY.out))
      have HS := Lib.hid (HS.out.only hP.out (by have := HXY.out; omega) hO)
      have HY := Lib.hid hB
      clear ew hO hB fy cy0
      refine (pg_int g A n cap bs q2 _ (Lib.hid HS.out.pg)).mono ?_
      cases h3 : rInt bs q2 with
      | none =>
        rw [Rd.bind_none h3] at HR
        rintro e w3 ⟨rfl, hk⟩
        refine ⟨rfl, ?_⟩
        rw [HR.out]
        exact RetR.none_ (HS.out.kp.trans hk)
      | some x =>
        obtain ⟨x3, q3⟩ := x
        rw [Rd.bind_some h3] at HR
        rintro e w3 ⟨v, rfl, ⟨rfl, b3⟩, hp, hk⟩
        have HX := Lib.hid (hk.notBlk HX.out (by have := HG.out; omega))
        have HY := Lib.hid (hk.notBlk HY.out (by have := HG.out; have := HXY.out; omega))
        have HS := Lib.hid (HS.out.read hp hk)
        clear hp hk
        have cy0 := HY.out.cell 4
        have fy := HY.out.frozen
        go_wp2_with fail
        obtain ⟨v3, ew⟩ : ∃ v3, w3.setCell ⟨w1.heap.size, 4, none⟩ (.int .i64 x3) = v3 := ⟨_, rfl⟩
        have hO := (Only.set_ w3 w1.heap.size 4 (.int .i64 x3))
        have hB : Blk (w3.setCell ⟨w1.heap.size, 4, none⟩ (.int .i64 x3)) w1.heap.size 28 #[.int .u64 (x1.ver : Int), .int .i64 x1.idx, .int .u64 (x1.ep : Int), .int .i64 x2, .int .i64 x3, .int .i64 0, .int .u32 0] := by have := (HY.out.set_ 4 (.int .i64 x3)); simpa using this
        rw [ew] at hO hB ⊢
        have HX := Lib.hid (hO.blk HX.out (Nat.ne_of_lt HXY.out))
        have HS := Lib.hid (HS.out.only hP.out (by have := HXY.out; omega) hO)
        have HY := Lib.hid hB
        clear ew hO hB fy cy0
        refine (pg_int g A n cap bs q3 _ (Lib.hid HS.out.pg)).mono ?_
        cases h4 : rInt bs q3 with
        | none =>
          rw [Rd.bind_none h4] at HR
          rintro e w4 ⟨rfl, hk⟩
          refine ⟨rfl, ?_⟩
          rw [HR.out]
          exact RetR.none_ (HS.out.kp.trans hk)
        | some x =>
          obtain ⟨x4, q4⟩ := x
          rw [Rd.bind_some h4] at HR
          rintro e w4 ⟨v, rfl, ⟨rfl, b4⟩, hp, hk⟩
          have HX := Lib.hid (hk.notBlk HX.out (by have := HG.out; omega))
          have HY := Lib.hid (hk.notBlk HY.out (by have := HG.out; have := HXY.out; omega))
          have HS := Lib.hid (HS.out.read hp hk)
          clear hp hk
          have cy0 := HY.out.cell 5
          have fy := HY.out.frozen
          go_wp2_with fail
          obtain ⟨v4, ew⟩ : ∃ v4, w4.setCell ⟨w1.heap.size, 5, none⟩ (.int .i64 x4) = v4 := ⟨_, rfl⟩
          have hO := (Only.set_ w4 w1.heap.size 5 (.int .i64 x4))
          have hB : Blk (w4.setCell ⟨w1.heap.size, 5, none⟩ (.int .i64 x4)) w1.heap.size 28 #[.int .u64 (x1.ver : Int), .int .i64 x1.idx, .int .u64 (x1.ep : Int), .int .i64 x2, .int .i64 x3, .int .i64 x4, .int .u32 0] := by have := (HY.out.set_ 5 (.int .i64 x4)); simpa using this
          rw [ew] at hO hB ⊢
          have HX := Lib.hid (hO.blk HX.out (Nat.ne_of_lt HXY.out))
          have HS := Lib.hid (HS.out.only hP.out (by have := HXY.out; omega) hO)
          have HY := Lib.hid hB
          clear ew hO hB fy cy0
          refine (pg_word g A n cap bs q4 _ (Lib.hid HS.out.pg)).mono ?_
          cases h5 : rWord bs q4 with
          | none =>
            rw [Rd.bind_none h5] at HR
            rintro e w5 ⟨rfl, hk⟩
            refine ⟨rfl, ?_⟩
            rw [HR.out]
            exact RetR.none_ (HS.out.kp.trans hk)
          | some x =>
            obtain ⟨x5, q5⟩ := x
            rw [Rd.bind_some h5] at HR
            rintro e w5 ⟨v, rfl, ⟨rfl, b5⟩, hp, hk⟩
            have HX := Lib.hid (hk.notBlk HX.out (by have := HG.out; omega))
            have HY := Lib.hid (hk.notBlk HY.out (by have := HG.out; have := HXY.out; omega))
            have HS := Lib.hid (HS.out.read hp hk)
            clear hp hk
            have cy0 := HY.out.cell 6
            have fy := HY.out.frozen
            have hO := (Only.set_ w5 w1.heap.size 6 (.int .u32 (x5 : Int)))
            have hB : Blk (w5.setCell ⟨w1.heap.size, 6, none⟩ (.int .u32 (x5 : Int))) w1.heap.size 28 #[.int .u64 (x1.ver : Int), .int .i64 x1.idx, .int .u64 (x1.ep : Int), .int .i64 x2, .int .i64 x3, .int .i64 x4, .int .u32 (x5 : Int)] := by have := (HY.out.set_ 6 (.int .u32 (x5 : Int))); simpa using this
            have HX := Lib.hid (hO.blk HX.out (Nat.ne_of_lt HXY.out))
            have HS := Lib.hid (HS.out.only hP.out (by have := HXY.out; omega) hO)
            have HY := Lib.hid hB
            clear hO hB
            go_wp2_with (first | (refine wpl_load_blk rfl 28 (.tmp 3) rfl w1.heap.size 28 _ _ rfl HY.out Try.underlying28 rfl Try.sizeH ?_) | (refine wpl_store_blk rfl 28 (.tmp 2) (.tmp 19) rfl w.heap.size 28 _ #[.int .u64 (x1.ver : Int), .int .i64 x1.idx, .int .u64 (x1.ep : Int), .int .i64 x2, .int .i64 x3, .int .i64 x4, .int .u32 (x5 : Int)] rfl rfl HX.out rfl Try.sizeH rfl ?_; intro wf hB hO))
            have HS := Lib.hid (HS.out.only hP.out (by omega) hO.out)
            refine bodyPost_ret (v := .agg #[.int .u64 (x1.ver : Int), .int .i64 x1.idx, .int .u64 (x1.ep : Int), .int .i64 x2, .int .i64 x3, .int .i64 x4, .int .u32 (x5 : Int)]) (res_c Try.results26 rfl (load_blk hB.out Try.underlying28 rfl Try.sizeH)) rfl ?_
            rw [HR.out]
            exact RetR.some_ ⟨rfl, b1.1, b1.2.1, b1.2.2, b2, b3, b4, b5⟩ HS.out.pg HS.out.kp
theorem Try.sizeF : (Try.prog.info? 38).map (·.size) = some 2 := by kernel_rfl
def vConf (lo : Nat) (x : List Int × List Int) (w : World) (v : Value) : Prop := ∃ A1 c1 A2 c2, v = .agg #[.slice A1 x.1.length c1, .slice A2 x.2.length c2] ∧ Lst lo 1 A1 c1 x.1.length (x.1.map iv) w ∧ Lst lo 1 A2 c2 x.2.length (x.2.map iv) w ∧ ((∀ y ∈ x.1, -9223372036854775808 ≤ y ∧ y ≤ 9223372036854775807) ∧ x.1.length ≤ 1048576) ∧ ((∀ y ∈ x.2, -9223372036854775808 ≤ y ∧ y ≤ 9223372036854775807) ∧ x.2.length ≤ 1048576)
set_option maxRecDepth 100000 in
set_option maxHeartbeats 4000000 in
theorem pg_conf (g : Nat) (A : Option Addr) (n cap : Nat) (bs : List Nat) (p : Nat) (w : World) (hP : Hid (PG g A n cap bs p w)) :
    Calls Try.prog 33 #[.pointer (some ⟨g, 0, none⟩)] w (RetR (rConf bs p) (vConf w.heap.size) g A n cap bs w) := by
  have HR := Lib.hid (show rConf bs p = ((rList bs (rInt bs)).bind fun v => (rList bs (rInt bs)).bind fun l => Rd.pure (v, l)) p from rfl)
  obtain ⟨w0, ew0⟩ : ∃ w0, w.alloc (.cells #[.slice none 0 0, .slice none 0 0] 38) = w0 := ⟨_, rfl⟩
  have hs := (RS.start hP.out).alloc (.cells #[.slice none 0 0, .slice none 0 0] 38)
  have hx : Blk (w.alloc (.cells #[.slice none 0 0, .slice none 0 0] 38)) w.heap.size 38 #[.slice none 0 0, .slice none 0 0] := by have := Blk.new w 38 #[.slice none 0 0, .slice none 0 0]; simpa using this
  rw [ew0] at hs hx
  have HS := Lib.hid hs
  have HX := Lib.hid hx
  have HG := Lib.hid hP.out.blk.lt
  clear hs hx
  go_enter Try.func33, Try.ntmps33
  go_wp2_with fail
  clear ew0
  refine (pg_ints g A n cap bs p _ (Lib.hid HS.out.pg)).mono ?_
  cases h1 : rList bs (rInt bs) p with
  | none =>
    rw [Rd.bind_none h1] at HR
    rintro e w1 ⟨rfl, hk⟩
    refine ⟨rfl, ?_⟩
    rw [HR.out]
    exact RetR.none_ (HS.out.kp.trans hk)
  | some x =>
    obtain ⟨x1, q1⟩ := x
    rw [Rd.bind_some h1] at HR
    rintro e w1 ⟨v, rfl, ⟨A1, c1, rfl, l1, b1⟩, hp, hk⟩
    have axL1 := Lib.hid (l1.apart_lo HX.out.lt)
    have L1 := Lib.hid (l1.mono HS.out.kp.size)
    clear l1
    have HX := Lib.hid (hk.notBlk HX.out (by have := HG.out; omega))
    have HS := Lib.hid (HS.out.read hp hk)
    clear hp hk
    have ayL1 := Lib.hid (L1.out.apart_hi (Nat.le_refl _))
    have HXY := Lib.hid HX.out.lt
    go_wp2_with (refine wpl_store_blk rfl 38 (.tmp 3) (.tmp 8) rfl w1.heap.size 38 #[.slice none 0 0, .slice none 0 0] #[.slice A1 x1.length c1, .slice none 0 0] rfl rfl (Blk.new w1 _ _) rfl Try.sizeF rfl ?_; intro wa hB hO)
    have L1 := Lib.hid ((L1.out.alloc _).only hO.out ayL1.out)
    have HX := Lib.hid (hO.out.blk (HX.out.alloc _) (Nat.ne_of_lt HXY.out))
    have HS := Lib.hid ((HS.out.alloc _).only hP.out (by have := HXY.out; omega) hO.out)
    have HY := Lib.hid hB.out
    clear hB hO
    refine (pg_ints g A n cap bs q1 _ (Lib.hid HS.out.pg)).mono ?_
    cases h2 : rList bs (rInt bs) q1 with
    | none =>
      rw [Rd.bind_none h2] at HR
      rintro e w2 ⟨rfl, hk⟩
      refine ⟨rfl, ?_⟩
      rw [HR.out]
      exact RetR.none_ (HS.out.kp.trans hk)
    | some x =>
      obtain ⟨x2, q2⟩ := x
      rw [Rd.bind_some h2] at HR
      rintro e w2 ⟨v, rfl, ⟨A2, c2, rfl, l2, b2⟩, hp, hk⟩
      have axL2 := Lib.hid (l2.apart_lo HX.out.lt)
      have ayL2 := Lib.hid (l2.apart_lo HY.out.lt)
      have L2 := Lib.hid (l2.mono HS.out.kp.size)
      clear l2
      have L1 := Lib.hid (L1.out.keep hk HG.out)
      have HX := Lib.hid (hk.notBlk HX.out (by have := HG.out; omega))
      have HY := Lib.hid (hk.notBlk HY.out (by have := HG.out; have := HXY.out; omega))
      have HS := Lib.hid (HS.out.read hp hk)
      clear hp hk
      have cy0 := HY.out.cell 1
      have fy := HY.out.frozen
      have hO := (Only.set_ w2 w1.heap.size 1 (.slice A2 x2.length c2))
      have hB : Blk (w2.setCell ⟨w1.heap.size, 1, none⟩ (.slice A2 x2.length c2)) w1.heap.size 38 #[.slice A1 x1.length c1, .slice A2 x2.length c2] := by have := (HY.out.set_ 1 (.slice A2 x2.length c2)); simpa using this
      have L1 := Lib.hid (L1.out.only hO ayL1.out)
      have L2 := Lib.hid (L2.out.only hO ayL2.out)
      have HX := Lib.hid (hO.blk HX.out (Nat.ne_of_lt HXY.out))
      have HS := Lib.hid (HS.out.only hP.out (by have := HXY.out; omega) hO)
      have HY := Lib.hid hB
      clear hO hB
      go_wp2_with (first | (refine wpl_load_blk rfl 38 (.tmp 3) rfl w1.heap.size 38 _ _ rfl HY.out Try.underlying38 rfl Try.sizeF ?_) | (refine wpl_store_blk rfl 38 (.tmp 2) (.tmp 14) rfl w.heap.size 38 _ #[.slice A1 x1.length c1, .slice A2 x2.length c2] rfl rfl HX.out rfl Try.sizeF rfl ?_; intro wf hB hO))
      have HS := Lib.hid (HS.out.only hP.out (by omega) hO.out)
      have L1 := Lib.hid (L1.out.only hO.out axL1.out)
      have L2 := Lib.hid (L2.out.only hO.out axL2.out)
      refine bodyPost_ret (v := .agg #[.slice A1 x1.length c1, .slice A2 x2.length c2]) (res_c Try.results33 rfl (load_blk hB.out Try.underlying38 rfl Try.sizeF)) rfl ?_
      rw [HR.out]
      exact RetR.some_ ⟨A1, c1, A2, c2, rfl, L1.out, L2.out, b1, b2⟩ HS.out.pg HS.out.kp
end Go.Proofs.Ythgiafjiemiifaa
