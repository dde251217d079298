/-
  THE PROGRAM'S READER: maps. (printed by gen_par6.py). (joined out of PaR9 by shake.py)
-/
import Derived.Test.YthgiafjiemiifaaGreatPbk10
section
namespace Go.Proofs.YthgiafjiemiifaaGreat
open Go.RowKit OctMath
set_option linter.unusedVariables false
theorem Tryz.sizeMa : (Tryz.prog.info? 31).map (·.size) = some 2 := by kernel_rfl
def vMap (lo : Nat) (x : Nat × List (Int × Int)) (w : World) (v : Value) : Prop := ∃ A c, v = .agg #[.int .u64 (x.1 : Int), .slice A x.2.length c] ∧ Lst lo 2 A c x.2.length (mcells x.2) w ∧ (x.1 < 18446744073709551616 ∧ (∀ y ∈ x.2, MemOk y) ∧ x.2.length ≤ 1048576)
set_option maxRecDepth 100000 in
set_option maxHeartbeats 4000000 in
theorem pg_map (g : Nat) (A : Option Addr) (n cap : Nat) (bs : List Nat) (p : Nat) (w : World) (hP : Hid (PG g A n cap bs p w)) :
    Calls Tryz.prog 54 #[.pointer (some ⟨g, 0, none⟩)] w (RetR (rMap bs p) (vMap w.heap.size) g A n cap bs w) := by
  have HR := Lib.hid (show rMap bs p = ((rNum bs).bind fun e => (rList bs (rMem bs)).bind fun l => Rd.pure (e, l)) p from rfl)
  obtain ⟨w0, ew0⟩ : ∃ w0, (w.alloc (.cells #[.pointer (some ⟨g, 0, none⟩)] 75)).alloc (.cells #[.int .u64 0, .slice none 0 0] 31) = w0 := ⟨_, rfl⟩
  have hs := ((RS.start hP.out).alloc (.cells #[.pointer (some ⟨g, 0, none⟩)] 75)).alloc (.cells #[.int .u64 0, .slice none 0 0] 31)
  have hx : Blk ((w.alloc (.cells #[.pointer (some ⟨g, 0, none⟩)] 75)).alloc (.cells #[.int .u64 0, .slice none 0 0] 31)) (w.heap.size + 1) 31 #[.int .u64 0, .slice none 0 0] := by have := Blk.new (w.alloc (.cells #[.pointer (some ⟨g, 0, none⟩)] 75)) 31 #[.int .u64 0, .slice none 0 0]; simpa using this
  have hbb := (Blk.new w 75 #[.pointer (some ⟨g, 0, none⟩)]).alloc (.cells #[.int .u64 0, .slice none 0 0] 31)
  have hbg := Lib.hid (Nat.ne_of_gt hP.out.blk.lt)
  rw [ew0] at hs hx hbb
  have HB := Lib.hid hbb
  have cb := hbb.cell 0
  clear hbb
  have HS := Lib.hid hs
  have HX := Lib.hid hx
  have HG := Lib.hid hP.out.blk.lt
  clear hs hx
  go_enter Tryz.func54, Tryz.ntmps54
  go_wp2_with fail
  clear ew0 cb
  refine (pg_number g A n cap bs p _ (Lib.hid HS.out.pg)).mono ?_
  cases h1 : rNum bs p with
  | none =>
    rw [Rd.bind_none h1] at HR
    rintro e w1 ⟨rfl, hk⟩
    refine ⟨rfl, ?_⟩
    rw [HR.out]
    exact RetR.none_ (HS.out.kp.trans hk)
  | some x =>
    obtain ⟨x1, q1⟩ := x
    rw [Rd.bind_some h1] at HR
    rintro e w1 ⟨v, rfl, ⟨rfl, b1⟩, hp, hk⟩
    have HB := Lib.hid (hk.notBlk HB.out hbg.out)
    have cb := HB.out.cell 0
    have HX := Lib.hid (hk.notBlk HX.out (by have := HG.out; omega))
    have HS := Lib.hid (HS.out.read hp hk)
    clear hp hk
    have HXY := Lib.hid HX.out.lt
    go_wp2_with (refine wpl_store_blk rfl 31 (.tmp 3) (.tmp 6) rfl w1.heap.size 31 #[.int .u64 0, .slice none 0 0] #[.int .u64 (x1 : Int), .slice none 0 0] rfl rfl (Blk.new w1 _ _) rfl Tryz.sizeMa rfl ?_; intro wa hB hO; have cb := (hO.out.blk (HB.out.alloc _) (by have := HXY.out; omega)).cell 0)
    have HB := Lib.hid (hO.out.blk (HB.out.alloc _) (by have := HXY.out; omega))
    have HX := Lib.hid (hO.out.blk (HX.out.alloc _) (Nat.ne_of_lt HXY.out))
    have HS := Lib.hid ((HS.out.alloc _).only hP.out (by have := HXY.out; omega) hO.out)
    have HY := Lib.hid hB.out
    clear hB hO
    refine (pg_mems g A n cap bs q1 _ (Lib.hid HS.out.pg) w.heap.size HB hbg).mono ?_
    cases h2 : rList bs (rMem bs) q1 with
    | none =>
      rw [Rd.bind_none h2] at HR
      rintro e w2 ⟨rfl, hk⟩
      refine ⟨rfl, ?_⟩
      rw [HR.out]
      exact RetR.none_ (HS.out.kp.trans hk)
    | some x =>
      obtain ⟨x2, q2⟩ := x
      rw [Rd.bind_some h2] at HR
      rintro e w2 ⟨v, rfl, ⟨A2, c2, rfl, l2, b2⟩, hp, hk⟩
      have axL2 := Lib.hid (l2.apart_lo HX.out.lt)
      have ayL2 := Lib.hid (l2.apart_lo HY.out.lt)
      have L2 := Lib.hid (l2.mono HS.out.kp.size)
      clear l2
      have HB := Lib.hid (hk.notBlk HB.out hbg.out)
      have cb := HB.out.cell 0
      have HX := Lib.hid (hk.notBlk HX.out (by have := HG.out; omega))
      have HY := Lib.hid (hk.notBlk HY.out (by have := HG.out; have := HXY.out; omega))
      have HS := Lib.hid (HS.out.read hp hk)
      clear hp hk
      have cy0 := HY.out.cell 1
      have fy := HY.out.frozen
      have hO := (Only.set_ w2 w1.heap.size 1 (.slice A2 x2.length c2))
      have hB : Blk (w2.setCell ⟨w1.heap.size, 1, none⟩ (.slice A2 x2.length c2)) w1.heap.size 31 #[.int .u64 (x1 : Int), .slice A2 x2.length c2] := by have := (HY.out.set_ 1 (.slice A2 x2.length c2)); simpa using this
      have L2 := Lib.hid (L2.out.only hO ayL2.out)
      have HB := Lib.hid (hO.blk HB.out (by have := HXY.out; omega))
      have HX := Lib.hid (hO.blk HX.out (Nat.ne_of_lt HXY.out))
      have HS := Lib.hid (HS.out.only hP.out (by have := HXY.out; omega) hO)
      have HY := Lib.hid hB
      clear hO hB
      go_wp2_with (first | (refine wpl_load_blk rfl 31 (.tmp 3) rfl w1.heap.size 31 _ _ rfl HY.out Tryz.underlying31 rfl Tryz.sizeMa ?_) | (refine wpl_store_blk rfl 31 (.tmp 2) (.tmp 11) rfl (w.heap.size + 1) 31 _ #[.int .u64 (x1 : Int), .slice A2 x2.length c2] rfl rfl HX.out rfl Tryz.sizeMa rfl ?_; intro wf hB hO))
      have HS := Lib.hid (HS.out.only hP.out (by omega) hO.out)
      have L2 := Lib.hid (L2.out.only hO.out axL2.out)
      refine bodyPost_ret (v := .agg #[.int .u64 (x1 : Int), .slice A2 x2.length c2]) (res_c Tryz.results54 rfl (load_blk hB.out Tryz.underlying31 rfl Tryz.sizeMa)) rfl ?_
      rw [HR.out]
      exact RetR.some_ ⟨A2, c2, rfl, L2.out, b1, b2⟩ HS.out.pg HS.out.kp
end Go.Proofs.YthgiafjiemiifaaGreat
end
