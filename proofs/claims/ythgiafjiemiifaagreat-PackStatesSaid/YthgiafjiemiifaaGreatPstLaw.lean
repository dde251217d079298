/-
  PackStates holds for every bytes and place: what they are read as, an entry or a state, or that they are no such thing, is the same for the program and the reference; what is read its Put writes.
-/
import Derived.Deep.RegionHeld3
import Derived.Deep.Cut
import Derived.Test.YthgiafjiemiifaaGreatPst44
import Derived.Test.YthgiafjiemiifaaGreatPst33
import Derived.Test.YthgiafjiemiifaaGreatPst34
import Derived.Test.YthgiafjiemiifaaGreatPst03
namespace Go.Proofs.YthgiafjiemiifaaGreat
open Go.RowKit OctMath
set_option linter.unusedVariables false
set_option linter.unusedSimpArgs false
theorem undrew {B : Nat} {a w : World} (h : Below B a.drew w) : Below B a w := ⟨h.os, h.tape, h.output, h.size, h.block⟩
theorem MetR.drew {m : MM} {w : World} (h : MetR m w) : MetR m w.drew := ⟨h.map, h.next, h.cut, h.objs, h.ints, h.sess, h.wass, h.down, h.os, h.is, h.oss, h.iss⟩
theorem wpl_wanted {P : Program} {ops : Array Oper} {Q : Exit → Act → World → Prop} {rest : List Oper} {o : Oper} {a : Act} {w : World} (hw : Region.wanted o (yielded ops a.tmps) = true) (h : o.wp P a w (wpList P ops Q rest) Q) : wpList P ops Q (o :: rest) a w := by
  unfold wpList
  rw [if_pos hw]
  exact .inl h
theorem wp_load_blk' {P : Program} {op : Oper} {a : Act} {w : World} {K : Act → World → Prop} {Q : Exit → Act → World → Prop} (ty : TypeId) (x : Operand) (ho : op.op = .load ty x)
    (g : Nat) (t : TypeId) (cs : Array Value) (d : TypeDesc) (hx : a.eval x = .pointer (some ⟨g, 0, none⟩)) (hB : Blk w g t cs) (hu : P.underlying ty = some d) (hd : d.isRow = true) (hi : (P.info? ty).map (·.size) = some cs.size)
    (h : K (a.put op.dst (.agg cs)) w) : op.wp P a w K Q :=
  wp_load_mid ty x ho g 0 hx cs.toList d (fun j v hv => by rw [Nat.zero_add, hB.cell]; simpa using hv) hu hd (by simpa using hi) (by simpa using h)
set_option maxRecDepth 100000 in
set_option maxHeartbeats 16000000 in
theorem states_any (A : Option Addr) (n cap : Nat) (bs : List Nat) (at_ : Int) (w : World) (HI0 : Hid (InB w A n cap bs)) :
    Calls Tryz.prog 3 #[.slice A n cap, .int .i64 at_] w fun e w' => e = .returned (.bool true) ∧ Below w.heap.size w w' := by
  have HG1 := Lib.hid (fun h => resOf_good (wr_ent HI0.out.byt) pEnt_pos HI0.out.len (z := ent0) (n := n) (at_ := at_) h)
  have XU1 := Lib.hid (fun W hI => xu_entry A n cap bs at_ W hI)
  have RU1 := Lib.hid (fun W hI => ru_entry A n cap bs at_ W hI)
  generalize resOf (rEnt bs) ent0 n at_ = R at *
  obtain ⟨x1, q1, e1⟩ := R
  simp only at HG1 XU1 RU1
  have HG2 := Lib.hid (fun h => resOf_good (wr_met HI0.out.byt) pMet_pos HI0.out.len (z := met0) (n := n) (at_ := at_) h)
  have XU2 := Lib.hid (fun W hI => xu_meta A n cap bs at_ W hI)
  have RU2 := Lib.hid (fun W hI => ru_meta A n cap bs at_ W hI)
  generalize resOf (rMet bs) met0 n at_ = R at *
  obtain ⟨x2, q2, e2⟩ := R
  simp only at HG2 XU2 RU2
  go_enter Tryz.func3, Tryz.ntmps3
  go_wp2_with fail
  have HB := Lib.hid (Below.refl w.heap.size w)
  refine (XU1.out w (Lib.hid (HI0.out.later HB.out))).mono ?_
  rintro e w1a ⟨hb, v, rfl, ⟨A1, c1, A2, c2, A3, c3, rfl, l1, l2, l3, hok⟩⟩
  try unfold entCs
  have HB := Lib.hid (HB.out.trans (hb.mono HB.out.size))
  have HOK := Lib.hid hok
  have K1 := Lib.hid l1.rd
  have K2 := Lib.hid l2.rd
  have K3 := Lib.hid l3.rd
  clear hb hok l1 l2 l3
  go_wp2_with (refine wpl_store_blk rfl 38 (.tmp 5) (.tmp 21) rfl w1a.heap.size 38 #[.int .u64 0, .int .u64 0, .int .i64 0, .int .i64 0, .int .u64 0, .int .u64 0, .string ⟨#[]⟩, .int .i64 0, .int .u32 0, .int .u64 0, .int .u64 0, .int .i64 0, .int .i64 0, .bool false, .int .u64 0, .int .i64 0, .int .u64 0, .int .u64 0, .slice none 0 0, .slice none 0 0, .slice none 0 0] #[.int .u64 (x1.index : Int), .int .u64 (x1.term : Int), .int .i64 x1.kind, .int .i64 x1.cmd.kind, .int .u64 (x1.cmd.client : Int), .int .u64 (x1.cmd.seq : Int), .string (strOf x1.cmd.key), .int .i64 x1.cmd.size, .int .u32 (x1.cmd.sum : Int), .int .u64 (x1.cmd.version : Int), .int .u64 (x1.cmd.epoch : Int), .int .i64 x1.cmd.group, .int .i64 x1.cmd.node, .bool x1.cmd.up, .int .u64 (x1.cmd.id.ver : Int), .int .i64 x1.cmd.id.idx, .int .u64 (x1.cmd.id.ep : Int), .int .u64 (x1.cmd.mep : Int), .slice A1 x1.cmd.mem.length c1, .slice A2 x1.voters.length c2, .slice A3 x1.learners.length c3] rfl rfl (Blk.new w1a _ _) rfl Tryz.sizeE rfl ?_; intro w1b hB1 hO1)
  have hs : Below w1a.heap.size w1a w1b := ((Below.refl _ _).alloc (Nat.le_refl _) _).trans (hO1.out.below (Nat.le_refl _))
  have HB := Lib.hid (HB.out.trans (hs.mono HB.out.size))
  have K1 := Lib.hid (K1.out.later hs)
  have K2 := Lib.hid (K2.out.later hs)
  have K3 := Lib.hid (K3.out.later hs)
  clear hs hO1
  refine (RU1.out w1b (Lib.hid (HI0.out.later HB.out))).mono ?_
  rintro e w1c ⟨hb, v, rfl, ⟨B1, d1, B2, d2, B3, d3, rfl, m1, m2, m3⟩⟩
  try unfold entCs
  have HX := Lib.hid (hB1.out.below hb hB1.out.lt)
  have HB := Lib.hid (HB.out.trans (hb.mono HB.out.size))
  have K1 := Lib.hid (K1.out.later hb)
  have M1 := Lib.hid m1.rd
  have K2 := Lib.hid (K2.out.later hb)
  have M2 := Lib.hid m2.rd
  have K3 := Lib.hid (K3.out.later hb)
  have M3 := Lib.hid m3.rd
  clear hb hB1 m1 m2 m3
  go_upto_region 5 with (first
    | (refine wpl_store_blk rfl 38 (.tmp 8) (.tmp 28) rfl w1c.heap.size 38 #[.int .u64 0, .int .u64 0, .int .i64 0, .int .i64 0, .int .u64 0, .int .u64 0, .string ⟨#[]⟩, .int .i64 0, .int .u32 0, .int .u64 0, .int .u64 0, .int .i64 0, .int .i64 0, .bool false, .int .u64 0, .int .i64 0, .int .u64 0, .int .u64 0, .slice none 0 0, .slice none 0 0, .slice none 0 0] #[.int .u64 (x1.index : Int), .int .u64 (x1.term : Int), .int .i64 x1.kind, .int .i64 x1.cmd.kind, .int .u64 (x1.cmd.client : Int), .int .u64 (x1.cmd.seq : Int), .string (strOf x1.cmd.key), .int .i64 x1.cmd.size, .int .u32 (x1.cmd.sum : Int), .int .u64 (x1.cmd.version : Int), .int .u64 (x1.cmd.epoch : Int), .int .i64 x1.cmd.group, .int .i64 x1.cmd.node, .bool x1.cmd.up, .int .u64 (x1.cmd.id.ver : Int), .int .i64 x1.cmd.id.idx, .int .u64 (x1.cmd.id.ep : Int), .int .u64 (x1.cmd.mep : Int), .slice B1 x1.cmd.mem.length d1, .slice B2 x1.voters.length d2, .slice B3 x1.learners.length d3] rfl rfl (Blk.new w1c _ _) rfl Tryz.sizeE rfl ?_; intro w1d hB2 hO2
       have hs : Below w1c.heap.size w1c w1d := ((Below.refl _ _).alloc (Nat.le_refl _) _).trans (hO2.out.below (Nat.le_refl _))
       have HB := Lib.hid (HB.out.trans (hs.mono HB.out.size))
       have HX := Lib.hid (HX.out.below hs HX.out.lt)
       have K1 := Lib.hid (K1.out.later hs)
       have M1 := Lib.hid (M1.out.later hs)
       have K2 := Lib.hid (K2.out.later hs)
       have M2 := Lib.hid (M2.out.later hs)
       have K3 := Lib.hid (K3.out.later hs)
       have M3 := Lib.hid (M3.out.later hs)
       have HY := Lib.hid hB2.out
       clear hs hO2 hB2)
    | (refine wpl_wanted (by rfl) (wp_load_blk' 38 (.tmp 5) rfl w1a.heap.size 38 #[.int .u64 (x1.index : Int), .int .u64 (x1.term : Int), .int .i64 x1.kind, .int .i64 x1.cmd.kind, .int .u64 (x1.cmd.client : Int), .int .u64 (x1.cmd.seq : Int), .string (strOf x1.cmd.key), .int .i64 x1.cmd.size, .int .u32 (x1.cmd.sum : Int), .int .u64 (x1.cmd.version : Int), .int .u64 (x1.cmd.epoch : Int), .int .i64 x1.cmd.group, .int .i64 x1.cmd.node, .bool x1.cmd.up, .int .u64 (x1.cmd.id.ver : Int), .int .i64 x1.cmd.id.idx, .int .u64 (x1.cmd.id.ep : Int), .int .u64 (x1.cmd.mep : Int), .slice A1 x1.cmd.mem.length c1, .slice A2 x1.voters.length c2, .slice A3 x1.learners.length c3] _ rfl HX.out Tryz.underlying38 rfl Tryz.sizeE ?_))
    | (refine wpl_wanted (by rfl) (wp_build1 (.tmp 40) rfl #[.int .u64 (x1.index : Int), .int .u64 (x1.term : Int), .int .i64 x1.kind, .int .i64 x1.cmd.kind, .int .u64 (x1.cmd.client : Int), .int .u64 (x1.cmd.seq : Int), .string (strOf x1.cmd.key), .int .i64 x1.cmd.size, .int .u32 (x1.cmd.sum : Int), .int .u64 (x1.cmd.version : Int), .int .u64 (x1.cmd.epoch : Int), .int .i64 x1.cmd.group, .int .i64 x1.cmd.node, .bool x1.cmd.up, .int .u64 (x1.cmd.id.ver : Int), .int .i64 x1.cmd.id.idx, .int .u64 (x1.cmd.id.ep : Int), .int .u64 (x1.cmd.mep : Int), .slice A1 x1.cmd.mem.length c1, .slice A2 x1.voters.length c2, .slice A3 x1.learners.length c3] rfl rfl ?_)
       obtain ⟨w1d1, ew⟩ : ∃ w1d1, w1d.alloc (.cells #[.int .u64 (x1.index : Int), .int .u64 (x1.term : Int), .int .i64 x1.kind, .int .i64 x1.cmd.kind, .int .u64 (x1.cmd.client : Int), .int .u64 (x1.cmd.seq : Int), .string (strOf x1.cmd.key), .int .i64 x1.cmd.size, .int .u32 (x1.cmd.sum : Int), .int .u64 (x1.cmd.version : Int), .int .u64 (x1.cmd.epoch : Int), .int .i64 x1.cmd.group, .int .i64 x1.cmd.node, .bool x1.cmd.up, .int .u64 (x1.cmd.id.ver : Int), .int .i64 x1.cmd.id.idx, .int .u64 (x1.cmd.id.ep : Int), .int .u64 (x1.cmd.mep : Int), .slice A1 x1.cmd.mem.length c1, .slice A2 x1.voters.length c2, .slice A3 x1.learners.length c3] 38) = w1d1 := ⟨_, rfl⟩
       have hs : Below w1d.heap.size w1d (w1d.alloc (.cells #[.int .u64 (x1.index : Int), .int .u64 (x1.term : Int), .int .i64 x1.kind, .int .i64 x1.cmd.kind, .int .u64 (x1.cmd.client : Int), .int .u64 (x1.cmd.seq : Int), .string (strOf x1.cmd.key), .int .i64 x1.cmd.size, .int .u32 (x1.cmd.sum : Int), .int .u64 (x1.cmd.version : Int), .int .u64 (x1.cmd.epoch : Int), .int .i64 x1.cmd.group, .int .i64 x1.cmd.node, .bool x1.cmd.up, .int .u64 (x1.cmd.id.ver : Int), .int .i64 x1.cmd.id.idx, .int .u64 (x1.cmd.id.ep : Int), .int .u64 (x1.cmd.mep : Int), .slice A1 x1.cmd.mem.length c1, .slice A2 x1.voters.length c2, .slice A3 x1.learners.length c3] 38)) := (Below.refl _ _).alloc (Nat.le_refl _) _
       have hg : Blk (w1d.alloc (.cells #[.int .u64 (x1.index : Int), .int .u64 (x1.term : Int), .int .i64 x1.kind, .int .i64 x1.cmd.kind, .int .u64 (x1.cmd.client : Int), .int .u64 (x1.cmd.seq : Int), .string (strOf x1.cmd.key), .int .i64 x1.cmd.size, .int .u32 (x1.cmd.sum : Int), .int .u64 (x1.cmd.version : Int), .int .u64 (x1.cmd.epoch : Int), .int .i64 x1.cmd.group, .int .i64 x1.cmd.node, .bool x1.cmd.up, .int .u64 (x1.cmd.id.ver : Int), .int .i64 x1.cmd.id.idx, .int .u64 (x1.cmd.id.ep : Int), .int .u64 (x1.cmd.mep : Int), .slice A1 x1.cmd.mem.length c1, .slice A2 x1.voters.length c2, .slice A3 x1.learners.length c3] 38)) w1d.heap.size 38 #[.int .u64 (x1.index : Int), .int .u64 (x1.term : Int), .int .i64 x1.kind, .int .i64 x1.cmd.kind, .int .u64 (x1.cmd.client : Int), .int .u64 (x1.cmd.seq : Int), .string (strOf x1.cmd.key), .int .i64 x1.cmd.size, .int .u32 (x1.cmd.sum : Int), .int .u64 (x1.cmd.version : Int), .int .u64 (x1.cmd.epoch : Int), .int .i64 x1.cmd.group, .int .i64 x1.cmd.node, .bool x1.cmd.up, .int .u64 (x1.cmd.id.ver : Int), .int .i64 x1.cmd.id.idx, .int .u64 (x1.cmd.id.ep : Int), .int .u64 (x1.cmd.mep : Int), .slice A1 x1.cmd.mem.length c1, .slice A2 x1.voters.length c2, .slice A3 x1.learners.length c3] := Blk.new w1d _ _
       rw [ew] at hs hg ⊢
       have G1 := Lib.hid hg
       have HB := Lib.hid (HB.out.trans (hs.mono HB.out.size))
       have HX := Lib.hid (HX.out.below hs HX.out.lt)
       have HY := Lib.hid (HY.out.below hs HY.out.lt)
       have K1 := Lib.hid (K1.out.later hs)
       have M1 := Lib.hid (M1.out.later hs)
       have K2 := Lib.hid (K2.out.later hs)
       have M2 := Lib.hid (M2.out.later hs)
       have K3 := Lib.hid (K3.out.later hs)
       have M3 := Lib.hid (M3.out.later hs)
       clear hs hg ew)
    | (refine wpl_wanted (by rfl) (wp_load_blk' 38 (.tmp 8) rfl w1c.heap.size 38 #[.int .u64 (x1.index : Int), .int .u64 (x1.term : Int), .int .i64 x1.kind, .int .i64 x1.cmd.kind, .int .u64 (x1.cmd.client : Int), .int .u64 (x1.cmd.seq : Int), .string (strOf x1.cmd.key), .int .i64 x1.cmd.size, .int .u32 (x1.cmd.sum : Int), .int .u64 (x1.cmd.version : Int), .int .u64 (x1.cmd.epoch : Int), .int .i64 x1.cmd.group, .int .i64 x1.cmd.node, .bool x1.cmd.up, .int .u64 (x1.cmd.id.ver : Int), .int .i64 x1.cmd.id.idx, .int .u64 (x1.cmd.id.ep : Int), .int .u64 (x1.cmd.mep : Int), .slice B1 x1.cmd.mem.length d1, .slice B2 x1.voters.length d2, .slice B3 x1.learners.length d3] _ rfl HY.out Tryz.underlying38 rfl Tryz.sizeE ?_))
    | (refine wpl_wanted (by rfl) (wp_build1 (.tmp 42) rfl #[.int .u64 (x1.index : Int), .int .u64 (x1.term : Int), .int .i64 x1.kind, .int .i64 x1.cmd.kind, .int .u64 (x1.cmd.client : Int), .int .u64 (x1.cmd.seq : Int), .string (strOf x1.cmd.key), .int .i64 x1.cmd.size, .int .u32 (x1.cmd.sum : Int), .int .u64 (x1.cmd.version : Int), .int .u64 (x1.cmd.epoch : Int), .int .i64 x1.cmd.group, .int .i64 x1.cmd.node, .bool x1.cmd.up, .int .u64 (x1.cmd.id.ver : Int), .int .i64 x1.cmd.id.idx, .int .u64 (x1.cmd.id.ep : Int), .int .u64 (x1.cmd.mep : Int), .slice B1 x1.cmd.mem.length d1, .slice B2 x1.voters.length d2, .slice B3 x1.learners.length d3] rfl rfl ?_)
       obtain ⟨w1d2, ew⟩ : ∃ w1d2, w1d1.alloc (.cells #[.int .u64 (x1.index : Int), .int .u64 (x1.term : Int), .int .i64 x1.kind, .int .i64 x1.cmd.kind, .int .u64 (x1.cmd.client : Int), .int .u64 (x1.cmd.seq : Int), .string (strOf x1.cmd.key), .int .i64 x1.cmd.size, .int .u32 (x1.cmd.sum : Int), .int .u64 (x1.cmd.version : Int), .int .u64 (x1.cmd.epoch : Int), .int .i64 x1.cmd.group, .int .i64 x1.cmd.node, .bool x1.cmd.up, .int .u64 (x1.cmd.id.ver : Int), .int .i64 x1.cmd.id.idx, .int .u64 (x1.cmd.id.ep : Int), .int .u64 (x1.cmd.mep : Int), .slice B1 x1.cmd.mem.length d1, .slice B2 x1.voters.length d2, .slice B3 x1.learners.length d3] 38) = w1d2 := ⟨_, rfl⟩
       have hs : Below w1d1.heap.size w1d1 (w1d1.alloc (.cells #[.int .u64 (x1.index : Int), .int .u64 (x1.term : Int), .int .i64 x1.kind, .int .i64 x1.cmd.kind, .int .u64 (x1.cmd.client : Int), .int .u64 (x1.cmd.seq : Int), .string (strOf x1.cmd.key), .int .i64 x1.cmd.size, .int .u32 (x1.cmd.sum : Int), .int .u64 (x1.cmd.version : Int), .int .u64 (x1.cmd.epoch : Int), .int .i64 x1.cmd.group, .int .i64 x1.cmd.node, .bool x1.cmd.up, .int .u64 (x1.cmd.id.ver : Int), .int .i64 x1.cmd.id.idx, .int .u64 (x1.cmd.id.ep : Int), .int .u64 (x1.cmd.mep : Int), .slice B1 x1.cmd.mem.length d1, .slice B2 x1.voters.length d2, .slice B3 x1.learners.length d3] 38)) := (Below.refl _ _).alloc (Nat.le_refl _) _
       have hg : Blk (w1d1.alloc (.cells #[.int .u64 (x1.index : Int), .int .u64 (x1.term : Int), .int .i64 x1.kind, .int .i64 x1.cmd.kind, .int .u64 (x1.cmd.client : Int), .int .u64 (x1.cmd.seq : Int), .string (strOf x1.cmd.key), .int .i64 x1.cmd.size, .int .u32 (x1.cmd.sum : Int), .int .u64 (x1.cmd.version : Int), .int .u64 (x1.cmd.epoch : Int), .int .i64 x1.cmd.group, .int .i64 x1.cmd.node, .bool x1.cmd.up, .int .u64 (x1.cmd.id.ver : Int), .int .i64 x1.cmd.id.idx, .int .u64 (x1.cmd.id.ep : Int), .int .u64 (x1.cmd.mep : Int), .slice B1 x1.cmd.mem.length d1, .slice B2 x1.voters.length d2, .slice B3 x1.learners.length d3] 38)) w1d1.heap.size 38 #[.int .u64 (x1.index : Int), .int .u64 (x1.term : Int), .int .i64 x1.kind, .int .i64 x1.cmd.kind, .int .u64 (x1.cmd.client : Int), .int .u64 (x1.cmd.seq : Int), .string (strOf x1.cmd.key), .int .i64 x1.cmd.size, .int .u32 (x1.cmd.sum : Int), .int .u64 (x1.cmd.version : Int), .int .u64 (x1.cmd.epoch : Int), .int .i64 x1.cmd.group, .int .i64 x1.cmd.node, .bool x1.cmd.up, .int .u64 (x1.cmd.id.ver : Int), .int .i64 x1.cmd.id.idx, .int .u64 (x1.cmd.id.ep : Int), .int .u64 (x1.cmd.mep : Int), .slice B1 x1.cmd.mem.length d1, .slice B2 x1.voters.length d2, .slice B3 x1.learners.length d3] := Blk.new w1d1 _ _
       rw [ew] at hs hg ⊢
       have G2 := Lib.hid hg
       have HB := Lib.hid (HB.out.trans (hs.mono HB.out.size))
       have HX := Lib.hid (HX.out.below hs HX.out.lt)
       have G1 := Lib.hid (G1.out.below hs G1.out.lt)
       have K1 := Lib.hid (K1.out.later hs)
       have M1 := Lib.hid (M1.out.later hs)
       have K2 := Lib.hid (K2.out.later hs)
       have M2 := Lib.hid (M2.out.later hs)
       have K3 := Lib.hid (K3.out.later hs)
       have M3 := Lib.hid (M3.out.later hs)
       clear hs hg ew HY)
    | (go_at_call 7; refine (same_entry1 w1d.heap.size w1d1.heap.size A1 c1 A2 c2 A3 c3 x1 B1 d1 B2 d2 B3 d3 w1d2 K1 K2 K3 M1 M2 M3 HOK.out G1 G2).mono ?_; rintro e w1e ⟨rfl, hb⟩
       have HB := Lib.hid (HB.out.trans (hb.mono HB.out.size))
       have HX := Lib.hid (HX.out.below hb HX.out.lt)
       have K1 := Lib.hid (K1.out.later hb)
       have K2 := Lib.hid (K2.out.later hb)
       have K3 := Lib.hid (K3.out.later hb)
       clear hb G1 G2 M1 M2 M3))
  have f0 : w1e.cell? ⟨w1a.heap.size, 0, none⟩ = some (.int .u64 (x1.index : Int)) := HX.out.cell 0
  have f1 : w1e.cell? ⟨w1a.heap.size, 1, none⟩ = some (.int .u64 (x1.term : Int)) := HX.out.cell 1
  have f2 : w1e.cell? ⟨w1a.heap.size, 2, none⟩ = some (.int .i64 x1.kind) := HX.out.cell 2
  have f3 : w1e.cell? ⟨w1a.heap.size, 3, none⟩ = some (.int .i64 x1.cmd.kind) := HX.out.cell 3
  have f4 : w1e.cell? ⟨w1a.heap.size, 4, none⟩ = some (.int .u64 (x1.cmd.client : Int)) := HX.out.cell 4
  have f5 : w1e.cell? ⟨w1a.heap.size, 5, none⟩ = some (.int .u64 (x1.cmd.seq : Int)) := HX.out.cell 5
  have f6 : w1e.cell? ⟨w1a.heap.size, 6, none⟩ = some (.string (strOf x1.cmd.key)) := HX.out.cell 6
  have f7 : w1e.cell? ⟨w1a.heap.size, 7, none⟩ = some (.int .i64 x1.cmd.size) := HX.out.cell 7
  have f8 : w1e.cell? ⟨w1a.heap.size, 8, none⟩ = some (.int .u32 (x1.cmd.sum : Int)) := HX.out.cell 8
  have f9 : w1e.cell? ⟨w1a.heap.size, 9, none⟩ = some (.int .u64 (x1.cmd.version : Int)) := HX.out.cell 9
  have f10 : w1e.cell? ⟨w1a.heap.size, 10, none⟩ = some (.int .u64 (x1.cmd.epoch : Int)) := HX.out.cell 10
  have f11 : w1e.cell? ⟨w1a.heap.size, 11, none⟩ = some (.int .i64 x1.cmd.group) := HX.out.cell 11
  have f12 : w1e.cell? ⟨w1a.heap.size, 12, none⟩ = some (.int .i64 x1.cmd.node) := HX.out.cell 12
  have f13 : w1e.cell? ⟨w1a.heap.size, 13, none⟩ = some (.bool x1.cmd.up) := HX.out.cell 13
  have f14 : w1e.cell? ⟨w1a.heap.size, 14, none⟩ = some (.int .u64 (x1.cmd.id.ver : Int)) := HX.out.cell 14
  have f15 : w1e.cell? ⟨w1a.heap.size, 15, none⟩ = some (.int .i64 x1.cmd.id.idx) := HX.out.cell 15
  have f16 : w1e.cell? ⟨w1a.heap.size, 16, none⟩ = some (.int .u64 (x1.cmd.id.ep : Int)) := HX.out.cell 16
  have f17 : w1e.cell? ⟨w1a.heap.size, 17, none⟩ = some (.int .u64 (x1.cmd.mep : Int)) := HX.out.cell 17
  have f18 : w1e.cell? ⟨w1a.heap.size, 18, none⟩ = some (.slice A1 x1.cmd.mem.length c1) := HX.out.cell 18
  have f19 : w1e.cell? ⟨w1a.heap.size, 19, none⟩ = some (.slice A2 x1.voters.length c2) := HX.out.cell 19
  have f20 : w1e.cell? ⟨w1a.heap.size, 20, none⟩ = some (.slice A3 x1.learners.length c3) := HX.out.cell 20
  go_cut [69] from 47 (fun s69 wx => s69 = .bool false ∧ Hid (Below w.heap.size w wx))
  case first =>
    by_cases he : e1 = 0
    · as_aux_lemma =>
      subst he
      obtain ⟨p, q, hp, hq, h1, h2, h3⟩ := HG1.out rfl
      subst hp
      subst hq
      have hy := HI0.out.byt
      have hby : Byt (pEnt x1) := by rw [← h3]; exact (hy.drop _).take _
      obtain ⟨ys, eys⟩ : ∃ ys, pEnt x1 = ys := ⟨_, rfl⟩
      obtain ⟨A3_, s1, s2⟩ := slice_mid Tryz.underlying22 Tryz.infoU8 HI0.out.rd p q (by omega) (by omega) HI0.out.le
      rw [h3, eys] at s2
      rw [eys] at hby
      have HPU := Lib.hid (fun W k1 k2 k3 => put_entry none 0 0 [] A1 c1 A2 c2 A3 c3 x1 W (Lib.hid Reads.none_) k1 k2 k3 HOK.out (by omega))
      rw [List.nil_append, eys] at HPU
      have HBY := Lib.hid hby
      have S2 := Lib.hid s2
      have D1 := Lib.hid (And.intro h1 h2)
      have dd1 : decide ((q : Int) ≤ (p : Int)) = false := decide_eq_false (by omega)
      have dd2 : decide (q ≤ p) = false := decide_eq_false (by omega)
      have dd3 : decide ((q : Int) > (n : Int)) = false := decide_eq_false (by omega)
      have dd4 : decide (n < q) = false := decide_eq_false (by omega)
      have dd5 : decide ((n : Int) < (q : Int)) = false := decide_eq_false (by omega)
      clear h1 h2 h3 hy hby s2 eys
      clear f0 f1 f2 f3 f4 f5 f6 f7 f8 f9 f10 f11 f12 f13 f14 f15 f16 f17 f18 f19 f20
      refine wp_region_late (S0 := fun w' => Blk w' w1a.heap.size 38 #[.int .u64 (x1.index : Int), .int .u64 (x1.term : Int), .int .i64 x1.kind, .int .i64 x1.cmd.kind, .int .u64 (x1.cmd.client : Int), .int .u64 (x1.cmd.seq : Int), .string (strOf x1.cmd.key), .int .i64 x1.cmd.size, .int .u32 (x1.cmd.sum : Int), .int .u64 (x1.cmd.version : Int), .int .u64 (x1.cmd.epoch : Int), .int .i64 x1.cmd.group, .int .i64 x1.cmd.node, .bool x1.cmd.up, .int .u64 (x1.cmd.id.ver : Int), .int .i64 x1.cmd.id.idx, .int .u64 (x1.cmd.id.ep : Int), .int .u64 (x1.cmd.mep : Int), .slice A1 x1.cmd.mem.length c1, .slice A2 x1.voters.length c2, .slice A3 x1.learners.length c3]) (S := fun _ => True) 22 23 (by kernel_rfl) rfl ⟨HX.out.drew, trivial⟩ (fun wd hwd hH => ?_)
      have HBD := Lib.hid (show Below w.heap.size w wd from by rw [hwd]; exact HB.out.drew)
      have K1 := Lib.hid (show Reads wd wd.heap.size _ _ _ _ from by rw [hwd]; exact K1.out.drew)
      have K2 := Lib.hid (show Reads wd wd.heap.size _ _ _ _ from by rw [hwd]; exact K2.out.drew)
      have K3 := Lib.hid (show Reads wd wd.heap.size _ _ _ _ from by rw [hwd]; exact K3.out.drew)
      clear hwd HX HB
      refine wpAnyT_stay 0 (v := ?_) rfl (by kernel_rfl) (fun _ _ _ h => h) (Or.inl ⟨by rfl, ?_⟩) ⟨hH.1, fun _ => hH.2⟩ ?_
      rotate_left
      · (intro wx hx; clear hx; go_simp <;> with_reducible rfl)
      try simp only [Act.put, List.setIfInBounds_toArray, List.set_cons_zero, List.set_cons_succ]
      refine wpAnyT_stay 1 (v := ?_) rfl (by kernel_rfl) (fun _ _ _ h => h) (Or.inl ⟨by rfl, ?_⟩) ⟨hH.1, fun _ => hH.2⟩ ?_
      rotate_left
      · (intro wx hx; clear hx; go_simp <;> with_reducible rfl)
      try simp only [Act.put, List.setIfInBounds_toArray, List.set_cons_zero, List.set_cons_succ]
      refine wpAnyT_stay 2 (v := ?_) rfl (by kernel_rfl) (fun _ _ _ h => h) (Or.inl ⟨by rfl, ?_⟩) ⟨hH.1, fun _ => hH.2⟩ ?_
      rotate_left
      · (intro wx hx; clear hx; go_simp <;> with_reducible rfl)
      try simp only [Act.put, List.setIfInBounds_toArray, List.set_cons_zero, List.set_cons_succ]
      refine wpAnyT_stay 3 (v := ?_) rfl (by kernel_rfl) (fun _ _ _ h => h) (Or.inl ⟨by rfl, ?_⟩) ⟨hH.1, fun _ => hH.2⟩ ?_
      rotate_left
      · (intro wx hx; clear hx; go_simp <;> with_reducible rfl)
      try simp only [Act.put, List.setIfInBounds_toArray, List.set_cons_zero, List.set_cons_succ]
      refine wpAnyT_stay 4 (v := ?_) rfl (by kernel_rfl) (fun _ _ _ h => h) (Or.inl ⟨by rfl, ?_⟩) ⟨hH.1, fun _ => hH.2⟩ ?_
      rotate_left
      · (intro wx hx; clear hx; go_simp <;> with_reducible rfl)
      try simp only [Act.put, List.setIfInBounds_toArray, List.set_cons_zero, List.set_cons_succ]
      refine wpAnyT_stay 5 (v := ?_) rfl (by kernel_rfl) (fun _ _ _ h => h) (Or.inl ⟨by rfl, ?_⟩) ⟨hH.1, fun _ => hH.2⟩ ?_
      rotate_left
      · (intro wx hx; clear hx; go_simp <;> with_reducible rfl)
      try simp only [Act.put, List.setIfInBounds_toArray, List.set_cons_zero, List.set_cons_succ]
      refine wpAnyT_stay 6 (v := ?_) rfl (by kernel_rfl) (fun _ _ _ h => h) (Or.inl ⟨by rfl, ?_⟩) ⟨hH.1, fun _ => hH.2⟩ ?_
      rotate_left
      · (intro wx hx; clear hx; go_simp <;> with_reducible rfl)
      try simp only [Act.put, List.setIfInBounds_toArray, List.set_cons_zero, List.set_cons_succ]
      refine wpAnyT_stay 7 (v := ?_) rfl (by kernel_rfl) (fun _ _ _ h => h) (Or.inl ⟨by rfl, ?_⟩) ⟨hH.1, fun _ => hH.2⟩ ?_
      rotate_left
      · (intro wx hx; clear hx; go_simp <;> with_reducible rfl)
      try simp only [Act.put, List.setIfInBounds_toArray, List.set_cons_zero, List.set_cons_succ]
      refine wpAnyT_stay 8 (v := ?_) rfl (by kernel_rfl) (fun _ _ _ h => h) (Or.inl ⟨by rfl, ?_⟩) ⟨hH.1, fun _ => hH.2⟩ ?_
      rotate_left
      · (intro wx hx; clear hx; go_simp <;> with_reducible rfl)
      try simp only [Act.put, List.setIfInBounds_toArray, List.set_cons_zero, List.set_cons_succ]
      refine wpAnyT_stay 9 (v := ?_) rfl (by kernel_rfl) (fun _ _ _ h => h) (Or.inl ⟨by rfl, ?_⟩) ⟨hH.1, fun _ => hH.2⟩ ?_
      rotate_left
      · (intro wx hx; clear hx; go_simp <;> with_reducible rfl)
      try simp only [Act.put, List.setIfInBounds_toArray, List.set_cons_zero, List.set_cons_succ]
      refine wpAnyT_stay 10 (v := ?_) rfl (by kernel_rfl) (fun _ _ _ h => h) (Or.inl ⟨by rfl, ?_⟩) ⟨hH.1, fun _ => hH.2⟩ ?_
      rotate_left
      · (intro wx hx; clear hx; go_simp <;> with_reducible rfl)
      try simp only [Act.put, List.setIfInBounds_toArray, List.set_cons_zero, List.set_cons_succ]
      refine wpAnyT_stay 11 (v := ?_) rfl (by kernel_rfl) (fun _ _ _ h => h) (Or.inl ⟨by rfl, ?_⟩) ⟨hH.1, fun _ => hH.2⟩ ?_
      rotate_left
      · (intro wx hx; clear hx; go_simp <;> with_reducible rfl)
      try simp only [Act.put, List.setIfInBounds_toArray, List.set_cons_zero, List.set_cons_succ]
      refine wpAnyT_stay 12 (v := ?_) rfl (by kernel_rfl) (fun _ _ _ h => h) (Or.inl ⟨by rfl, ?_⟩) ⟨hH.1, fun _ => hH.2⟩ ?_
      rotate_left
      · (intro wx hx; clear hx; go_simp <;> with_reducible rfl)
      try simp only [Act.put, List.setIfInBounds_toArray, List.set_cons_zero, List.set_cons_succ]
      refine wpAnyT_stay 13 rfl (by kernel_rfl) (fun _ _ _ h => h) (yields_load_blk (by rfl) 38 (.tmp 5) rfl w1a.heap.size 38 #[.int .u64 (x1.index : Int), .int .u64 (x1.term : Int), .int .i64 x1.kind, .int .i64 x1.cmd.kind, .int .u64 (x1.cmd.client : Int), .int .u64 (x1.cmd.seq : Int), .string (strOf x1.cmd.key), .int .i64 x1.cmd.size, .int .u32 (x1.cmd.sum : Int), .int .u64 (x1.cmd.version : Int), .int .u64 (x1.cmd.epoch : Int), .int .i64 x1.cmd.group, .int .i64 x1.cmd.node, .bool x1.cmd.up, .int .u64 (x1.cmd.id.ver : Int), .int .i64 x1.cmd.id.idx, .int .u64 (x1.cmd.id.ep : Int), .int .u64 (x1.cmd.mep : Int), .slice A1 x1.cmd.mem.length c1, .slice A2 x1.voters.length c2, .slice A3 x1.learners.length c3] _ rfl (fun w' hw' => hw') Tryz.underlying38 rfl Tryz.sizeE) ⟨hH.1, fun _ => hH.2⟩ ?_
      try simp only [Act.put, List.setIfInBounds_toArray, List.set_cons_zero, List.set_cons_succ]
      refine wpAnyT_stay 15 (v := ?_) rfl (by kernel_rfl) (fun _ _ _ h => h) (Or.inl ⟨by rfl, ?_⟩) ⟨hH.1, fun _ => hH.2⟩ ?_
      rotate_left
      · (intro wx hx; clear hx; go_simp <;> with_reducible rfl)
      try simp only [Act.put, List.setIfInBounds_toArray, List.set_cons_zero, List.set_cons_succ]
      refine wpAnyT_stay 16 (v := ?_) rfl (by kernel_rfl) (fun _ _ _ h => h) (Or.inl ⟨by rfl, ?_⟩) ⟨hH.1, fun _ => hH.2⟩ ?_
      rotate_left
      · (intro wx hx; clear hx; go_simp <;> with_reducible rfl)
      try simp only [Act.put, List.setIfInBounds_toArray, List.set_cons_zero, List.set_cons_succ]
      refine wpAnyT_stay 17 (v := ?_) rfl (by kernel_rfl) (fun _ _ _ h => h) (Or.inl ⟨by rfl, ?_⟩) ⟨hH.1, fun _ => hH.2⟩ ?_
      rotate_left
      · (intro wx hx; clear hx; go_simp <;> with_reducible rfl)
      try simp only [Act.put, List.setIfInBounds_toArray, List.set_cons_zero, List.set_cons_succ]
      refine wpAnyT_stay 18 (v := ?_) rfl (by kernel_rfl) (fun _ _ _ h => h) (Or.inl ⟨by rfl, ?_⟩) ⟨hH.1, fun _ => hH.2⟩ ?_
      rotate_left
      · (intro wx hx; clear hx; go_simp <;> with_reducible rfl)
      try simp only [Act.put, List.setIfInBounds_toArray, List.set_cons_zero, List.set_cons_succ]
      refine wpAnyT_one 14 rfl (by kernel_rfl) (fun K hQ => ?_)
      rw [if_pos (by rfl)]
      go_simp
      (go_at_call 9; refine (HPU.out _ K1 K2 K3).mono ?_; rintro e wf ⟨A5, c5, rfl, r5, hb5⟩; have R5 := Lib.hid r5; have HB5 := Lib.hid hb5; have HB2 := Lib.hid (HBD.out.trans (hb5.mono HBD.out.size)); clear r5 hb5)
      refine hQ.out _ _ ⟨hH.1.below HB5.out hH.1.lt, trivial⟩ (fun hH1 => ?_)
      clear hQ K
      try simp only [Act.put, List.setIfInBounds_toArray, List.set_cons_zero, List.set_cons_succ]
      refine wpAnyT_one 19 rfl (by kernel_rfl) (fun K hQ => ?_)
      rw [if_pos (by rfl)]
      go_simp
      (go_at_call 8; refine (same_any A5 A3_ c5 _ _ _ ys ys _ HBY.out HBY.out R5.out ((S2.out _ (HI0.out.rd.below HB2.out)).more HB2.out.size)).mono ?_; rintro e w' ⟨rfl, rfl⟩)
      refine hQ.out _ _ ⟨hH1.1, trivial⟩ (fun hH2 => ?_)
      clear hQ K
      try simp only [Act.put, List.setIfInBounds_toArray, List.set_cons_zero, List.set_cons_succ]
      refine wpAnyT_stay 20 (v := ?_) rfl (by kernel_rfl) (fun _ _ _ h => h) (Or.inl ⟨by rfl, ?_⟩) ⟨hH2.1, fun _ => hH2.2⟩ ?_
      rotate_left
      · (intro wx hx; clear hx; go_simp <;> with_reducible rfl)
      try simp only [Act.put, List.setIfInBounds_toArray, List.set_cons_zero, List.set_cons_succ]
      refine wpAnyT_stay 21 (v := ?_) rfl (by kernel_rfl) (fun _ _ _ h => h) (Or.inl ⟨by rfl, ?_⟩) ⟨hH2.1, fun _ => hH2.2⟩ ?_
      rotate_left
      · (intro wx hx; clear hx; go_simp <;> with_reducible rfl)
      try simp only [Act.put, List.setIfInBounds_toArray, List.set_cons_zero, List.set_cons_succ]
      refine wpAnyT_last 22 rfl (by kernel_rfl) (by decide) (fun K hQ => ?_)
      rw [if_pos (by rfl)]
      go_simp
      refine hQ.out _ _ hH2.1 (fun hH3 => ?_)
      clear hQ K
      try simp only [Act.put, List.setIfInBounds_toArray, List.set_cons_zero, List.set_cons_succ]
      refine wpAnyT_done (by kernel_rfl) ?_ _
      clear hH hH1 hH2 hH3
      go_wp2_with fail
      go_meet
      case rel => exact ⟨rfl, HB2⟩
    · as_aux_lemma =>
      have dd : (e1 == 0) = false := by rw [beq_eq_false_iff_ne]; exact he
      clear he
      refine wp_region_class (fun w' => Hid (Below w.heap.size w w')) (by kernel_rfl) (by kernel_rfl) (Lib.hid HB.out.drew) ?_
      repeat (first
        | go_big_quiet_skip
        | (go_big_quiet_want; go_big_quiet_op; first
          | go_big_quiet_on
          | (refine ⟨_, fun _ _ => rfl, ?_⟩; go_big_quiet_on)))
      refine wpQuiet_nil ?_
      intro w' hw'
      go_wp2_with fail
      go_meet
      case rel => exact ⟨rfl, hw'⟩
  case rest =>
  as_aux_lemma =>
  obtain ⟨rfl, hbx⟩ := hcut
  have HB := hbx
  clear hbx HX HOK f0 f1 f2 f3 f4 f5 f6 f7 f8 f9 f10 f11 f12 f13 f14 f15 f16 f17 f18 f19 f20
  go_wp2_with fail
  refine (XU2.out wc (Lib.hid (HI0.out.later HB.out))).mono ?_
  rintro e w2a ⟨hb, v, rfl, ⟨P1, rfl, rfl, l1, hok⟩⟩
  have HB := Lib.hid (HB.out.trans (hb.mono HB.out.size))
  have HOK := Lib.hid hok
  have K1 := Lib.hid l1.rd
  clear hb hok l1
  go_wp2_with (refine wpl_store_blk rfl 53 (.tmp 11) (.tmp 74) rfl w2a.heap.size 53 #[.int .i64 0, .int .i64 0, .int .i64 0, .int .u64 0, .slice none 0 0, .int .u64 0, .slice none 0 0, .slice none 0 0, .slice none 0 0, .slice none 0 0, .slice none 0 0, .slice none 0 0, .slice none 0 0, .int .u64 0] #[.int .i64 P1.x.k, .int .i64 P1.x.n, .int .i64 P1.x.groups, .int .u64 (P1.x.mep : Int), .slice P1.MA P1.x.mem.length P1.mc, .int .u64 (P1.x.nep : Int), .slice P1.NA P1.x.nem.length P1.nc, .slice P1.CA P1.x.cut.length P1.cc, .slice P1.OA P1.x.objs.length P1.oc, .slice P1.IA P1.x.ints.length P1.ic, .slice P1.SA P1.x.sess.length P1.sc, .slice P1.WA P1.x.wass.length P1.wc, .slice P1.DA P1.x.down.length P1.dc, .int .u64 (P1.x.last : Int)] rfl rfl (Blk.new w2a _ _) rfl Tryz.sizeMet rfl ?_; intro w2b hB1 hO1)
  have hs : Below w2a.heap.size w2a w2b := ((Below.refl _ _).alloc (Nat.le_refl _) _).trans (hO1.out.below (Nat.le_refl _))
  have HB := Lib.hid (HB.out.trans (hs.mono HB.out.size))
  have K1 := Lib.hid (K1.out.later hs)
  clear hs hO1
  refine (RU2.out w2b (Lib.hid (HI0.out.later HB.out))).mono ?_
  rintro e w2c ⟨hb, v, rfl, ⟨P2, e2, rfl, m1⟩⟩
  have HX := Lib.hid (hB1.out.below hb hB1.out.lt)
  have HB := Lib.hid (HB.out.trans (hb.mono HB.out.size))
  have K1 := Lib.hid (K1.out.later hb)
  have M1 := Lib.hid m1.rd
  have E2 := Lib.hid e2
  clear hb hB1 m1 e2
  go_upto_region 11 with (first
    | (refine wpl_store_blk rfl 53 (.tmp 14) (.tmp 81) rfl w2c.heap.size 53 #[.int .i64 0, .int .i64 0, .int .i64 0, .int .u64 0, .slice none 0 0, .int .u64 0, .slice none 0 0, .slice none 0 0, .slice none 0 0, .slice none 0 0, .slice none 0 0, .slice none 0 0, .slice none 0 0, .int .u64 0] #[.int .i64 P2.x.k, .int .i64 P2.x.n, .int .i64 P2.x.groups, .int .u64 (P2.x.mep : Int), .slice P2.MA P2.x.mem.length P2.mc, .int .u64 (P2.x.nep : Int), .slice P2.NA P2.x.nem.length P2.nc, .slice P2.CA P2.x.cut.length P2.cc, .slice P2.OA P2.x.objs.length P2.oc, .slice P2.IA P2.x.ints.length P2.ic, .slice P2.SA P2.x.sess.length P2.sc, .slice P2.WA P2.x.wass.length P2.wc, .slice P2.DA P2.x.down.length P2.dc, .int .u64 (P2.x.last : Int)] rfl rfl (Blk.new w2c _ _) rfl Tryz.sizeMet rfl ?_; intro w2d hB2 hO2
       have hs : Below w2c.heap.size w2c w2d := ((Below.refl _ _).alloc (Nat.le_refl _) _).trans (hO2.out.below (Nat.le_refl _))
       have HB := Lib.hid (HB.out.trans (hs.mono HB.out.size))
       have HX := Lib.hid (HX.out.below hs HX.out.lt)
       have K1 := Lib.hid (K1.out.later hs)
       have M1 := Lib.hid (M1.out.later hs)
       have HY := Lib.hid hB2.out
       clear hs hO2 hB2)
    | (refine wpl_wanted (by rfl) (wp_load_blk' 53 (.tmp 11) rfl w2a.heap.size 53 #[.int .i64 P1.x.k, .int .i64 P1.x.n, .int .i64 P1.x.groups, .int .u64 (P1.x.mep : Int), .slice P1.MA P1.x.mem.length P1.mc, .int .u64 (P1.x.nep : Int), .slice P1.NA P1.x.nem.length P1.nc, .slice P1.CA P1.x.cut.length P1.cc, .slice P1.OA P1.x.objs.length P1.oc, .slice P1.IA P1.x.ints.length P1.ic, .slice P1.SA P1.x.sess.length P1.sc, .slice P1.WA P1.x.wass.length P1.wc, .slice P1.DA P1.x.down.length P1.dc, .int .u64 (P1.x.last : Int)] _ rfl HX.out Tryz.underlying53 rfl Tryz.sizeMet ?_))
    | (refine wpl_wanted (by rfl) (wp_load_blk' 53 (.tmp 14) rfl w2c.heap.size 53 #[.int .i64 P2.x.k, .int .i64 P2.x.n, .int .i64 P2.x.groups, .int .u64 (P2.x.mep : Int), .slice P2.MA P2.x.mem.length P2.mc, .int .u64 (P2.x.nep : Int), .slice P2.NA P2.x.nem.length P2.nc, .slice P2.CA P2.x.cut.length P2.cc, .slice P2.OA P2.x.objs.length P2.oc, .slice P2.IA P2.x.ints.length P2.ic, .slice P2.SA P2.x.sess.length P2.sc, .slice P2.WA P2.x.wass.length P2.wc, .slice P2.DA P2.x.down.length P2.dc, .int .u64 (P2.x.last : Int)] _ rfl HY.out Tryz.underlying53 rfl Tryz.sizeMet ?_))
    | (go_at_call 12; refine (same_meta P1 w2d K1 P2 E2.out M1 HOK.out).mono ?_; rintro e w2e ⟨rfl, hb⟩
       have HB := Lib.hid (HB.out.trans (hb.mono HB.out.size))
       have HX := Lib.hid (HX.out.below hb HX.out.lt)
       have K1 := Lib.hid (K1.out.later hb)
       clear hb HY M1))
  have f0 : w2e.cell? ⟨w2a.heap.size, 0, none⟩ = some (.int .i64 P1.x.k) := HX.out.cell 0
  have f1 : w2e.cell? ⟨w2a.heap.size, 1, none⟩ = some (.int .i64 P1.x.n) := HX.out.cell 1
  have f2 : w2e.cell? ⟨w2a.heap.size, 2, none⟩ = some (.int .i64 P1.x.groups) := HX.out.cell 2
  have f3 : w2e.cell? ⟨w2a.heap.size, 3, none⟩ = some (.int .u64 (P1.x.mep : Int)) := HX.out.cell 3
  have f4 : w2e.cell? ⟨w2a.heap.size, 4, none⟩ = some (.slice P1.MA P1.x.mem.length P1.mc) := HX.out.cell 4
  have f5 : w2e.cell? ⟨w2a.heap.size, 5, none⟩ = some (.int .u64 (P1.x.nep : Int)) := HX.out.cell 5
  have f6 : w2e.cell? ⟨w2a.heap.size, 6, none⟩ = some (.slice P1.NA P1.x.nem.length P1.nc) := HX.out.cell 6
  have f7 : w2e.cell? ⟨w2a.heap.size, 7, none⟩ = some (.slice P1.CA P1.x.cut.length P1.cc) := HX.out.cell 7
  have f8 : w2e.cell? ⟨w2a.heap.size, 8, none⟩ = some (.slice P1.OA P1.x.objs.length P1.oc) := HX.out.cell 8
  have f9 : w2e.cell? ⟨w2a.heap.size, 9, none⟩ = some (.slice P1.IA P1.x.ints.length P1.ic) := HX.out.cell 9
  have f10 : w2e.cell? ⟨w2a.heap.size, 10, none⟩ = some (.slice P1.SA P1.x.sess.length P1.sc) := HX.out.cell 10
  have f11 : w2e.cell? ⟨w2a.heap.size, 11, none⟩ = some (.slice P1.WA P1.x.wass.length P1.wc) := HX.out.cell 11
  have f12 : w2e.cell? ⟨w2a.heap.size, 12, none⟩ = some (.slice P1.DA P1.x.down.length P1.dc) := HX.out.cell 12
  have f13 : w2e.cell? ⟨w2a.heap.size, 13, none⟩ = some (.int .u64 (P1.x.last : Int)) := HX.out.cell 13
  go_cut [120] from 98 (fun s120 wx => s120 = .bool false ∧ Hid (Below w.heap.size w wx))
  case first =>
    by_cases he : e2 = 0
    · as_aux_lemma =>
      subst he
      obtain ⟨p, q, hp, hq, h1, h2, h3⟩ := HG2.out rfl
      subst hp
      subst hq
      have hy := HI0.out.byt
      have hby : Byt (pMet P1.x) := by rw [← h3]; exact (hy.drop _).take _
      obtain ⟨ys, eys⟩ : ∃ ys, pMet P1.x = ys := ⟨_, rfl⟩
      obtain ⟨A3_, s1, s2⟩ := slice_mid Tryz.underlying22 Tryz.infoU8 HI0.out.rd p q (by omega) (by omega) HI0.out.le
      rw [h3, eys] at s2
      rw [eys] at hby
      have HPU := Lib.hid (fun W k1 => put_meta none 0 0 [] P1 W (Lib.hid Reads.none_) k1 HOK.out (by omega))
      rw [List.nil_append, eys] at HPU
      have HBY := Lib.hid hby
      have S2 := Lib.hid s2
      have D1 := Lib.hid (And.intro h1 h2)
      have dd1 : decide ((q : Int) ≤ (p : Int)) = false := decide_eq_false (by omega)
      have dd2 : decide (q ≤ p) = false := decide_eq_false (by omega)
      have dd3 : decide ((q : Int) > (n : Int)) = false := decide_eq_false (by omega)
      have dd4 : decide (n < q) = false := decide_eq_false (by omega)
      have dd5 : decide ((n : Int) < (q : Int)) = false := decide_eq_false (by omega)
      clear h1 h2 h3 hy hby s2 eys
      clear f0 f1 f2 f3 f4 f5 f6 f7 f8 f9 f10 f11 f12 f13
      refine wp_region_late (S0 := fun w' => Blk w' w2a.heap.size 53 #[.int .i64 P1.x.k, .int .i64 P1.x.n, .int .i64 P1.x.groups, .int .u64 (P1.x.mep : Int), .slice P1.MA P1.x.mem.length P1.mc, .int .u64 (P1.x.nep : Int), .slice P1.NA P1.x.nem.length P1.nc, .slice P1.CA P1.x.cut.length P1.cc, .slice P1.OA P1.x.objs.length P1.oc, .slice P1.IA P1.x.ints.length P1.ic, .slice P1.SA P1.x.sess.length P1.sc, .slice P1.WA P1.x.wass.length P1.wc, .slice P1.DA P1.x.down.length P1.dc, .int .u64 (P1.x.last : Int)]) (S := fun _ => True) 22 23 (by kernel_rfl) rfl ⟨HX.out.drew, trivial⟩ (fun wd hwd hH => ?_)
      have HBD := Lib.hid (show Below w.heap.size w wd from by rw [hwd]; exact HB.out.drew)
      have K1 := Lib.hid (show MetR P1 wd from by rw [hwd]; exact K1.out.drew)
      clear hwd HX HB
      refine wpAnyT_stay 0 (v := ?_) rfl (by kernel_rfl) (fun _ _ _ h => h) (Or.inl ⟨by rfl, ?_⟩) ⟨hH.1, fun _ => hH.2⟩ ?_
      rotate_left
      · (intro wx hx; clear hx; go_simp <;> with_reducible rfl)
      try simp only [Act.put, List.setIfInBounds_toArray, List.set_cons_zero, List.set_cons_succ]
      refine wpAnyT_stay 1 (v := ?_) rfl (by kernel_rfl) (fun _ _ _ h => h) (Or.inl ⟨by rfl, ?_⟩) ⟨hH.1, fun _ => hH.2⟩ ?_
      rotate_left
      · (intro wx hx; clear hx; go_simp <;> with_reducible rfl)
      try simp only [Act.put, List.setIfInBounds_toArray, List.set_cons_zero, List.set_cons_succ]
      refine wpAnyT_stay 2 (v := ?_) rfl (by kernel_rfl) (fun _ _ _ h => h) (Or.inl ⟨by rfl, ?_⟩) ⟨hH.1, fun _ => hH.2⟩ ?_
      rotate_left
      · (intro wx hx; clear hx; go_simp <;> with_reducible rfl)
      try simp only [Act.put, List.setIfInBounds_toArray, List.set_cons_zero, List.set_cons_succ]
      refine wpAnyT_stay 3 (v := ?_) rfl (by kernel_rfl) (fun _ _ _ h => h) (Or.inl ⟨by rfl, ?_⟩) ⟨hH.1, fun _ => hH.2⟩ ?_
      rotate_left
      · (intro wx hx; clear hx; go_simp <;> with_reducible rfl)
      try simp only [Act.put, List.setIfInBounds_toArray, List.set_cons_zero, List.set_cons_succ]
      refine wpAnyT_stay 4 (v := ?_) rfl (by kernel_rfl) (fun _ _ _ h => h) (Or.inl ⟨by rfl, ?_⟩) ⟨hH.1, fun _ => hH.2⟩ ?_
      rotate_left
      · (intro wx hx; clear hx; go_simp <;> with_reducible rfl)
      try simp only [Act.put, List.setIfInBounds_toArray, List.set_cons_zero, List.set_cons_succ]
      refine wpAnyT_stay 5 (v := ?_) rfl (by kernel_rfl) (fun _ _ _ h => h) (Or.inl ⟨by rfl, ?_⟩) ⟨hH.1, fun _ => hH.2⟩ ?_
      rotate_left
      · (intro wx hx; clear hx; go_simp <;> with_reducible rfl)
      try simp only [Act.put, List.setIfInBounds_toArray, List.set_cons_zero, List.set_cons_succ]
      refine wpAnyT_stay 6 (v := ?_) rfl (by kernel_rfl) (fun _ _ _ h => h) (Or.inl ⟨by rfl, ?_⟩) ⟨hH.1, fun _ => hH.2⟩ ?_
      rotate_left
      · (intro wx hx; clear hx; go_simp <;> with_reducible rfl)
      try simp only [Act.put, List.setIfInBounds_toArray, List.set_cons_zero, List.set_cons_succ]
      refine wpAnyT_stay 7 (v := ?_) rfl (by kernel_rfl) (fun _ _ _ h => h) (Or.inl ⟨by rfl, ?_⟩) ⟨hH.1, fun _ => hH.2⟩ ?_
      rotate_left
      · (intro wx hx; clear hx; go_simp <;> with_reducible rfl)
      try simp only [Act.put, List.setIfInBounds_toArray, List.set_cons_zero, List.set_cons_succ]
      refine wpAnyT_stay 8 (v := ?_) rfl (by kernel_rfl) (fun _ _ _ h => h) (Or.inl ⟨by rfl, ?_⟩) ⟨hH.1, fun _ => hH.2⟩ ?_
      rotate_left
      · (intro wx hx; clear hx; go_simp <;> with_reducible rfl)
      try simp only [Act.put, List.setIfInBounds_toArray, List.set_cons_zero, List.set_cons_succ]
      refine wpAnyT_stay 9 (v := ?_) rfl (by kernel_rfl) (fun _ _ _ h => h) (Or.inl ⟨by rfl, ?_⟩) ⟨hH.1, fun _ => hH.2⟩ ?_
      rotate_left
      · (intro wx hx; clear hx; go_simp <;> with_reducible rfl)
      try simp only [Act.put, List.setIfInBounds_toArray, List.set_cons_zero, List.set_cons_succ]
      refine wpAnyT_stay 10 (v := ?_) rfl (by kernel_rfl) (fun _ _ _ h => h) (Or.inl ⟨by rfl, ?_⟩) ⟨hH.1, fun _ => hH.2⟩ ?_
      rotate_left
      · (intro wx hx; clear hx; go_simp <;> with_reducible rfl)
      try simp only [Act.put, List.setIfInBounds_toArray, List.set_cons_zero, List.set_cons_succ]
      refine wpAnyT_stay 11 (v := ?_) rfl (by kernel_rfl) (fun _ _ _ h => h) (Or.inl ⟨by rfl, ?_⟩) ⟨hH.1, fun _ => hH.2⟩ ?_
      rotate_left
      · (intro wx hx; clear hx; go_simp <;> with_reducible rfl)
      try simp only [Act.put, List.setIfInBounds_toArray, List.set_cons_zero, List.set_cons_succ]
      refine wpAnyT_stay 12 (v := ?_) rfl (by kernel_rfl) (fun _ _ _ h => h) (Or.inl ⟨by rfl, ?_⟩) ⟨hH.1, fun _ => hH.2⟩ ?_
      rotate_left
      · (intro wx hx; clear hx; go_simp <;> with_reducible rfl)
      try simp only [Act.put, List.setIfInBounds_toArray, List.set_cons_zero, List.set_cons_succ]
      refine wpAnyT_stay 13 rfl (by kernel_rfl) (fun _ _ _ h => h) (yields_load_blk (by rfl) 53 (.tmp 11) rfl w2a.heap.size 53 #[.int .i64 P1.x.k, .int .i64 P1.x.n, .int .i64 P1.x.groups, .int .u64 (P1.x.mep : Int), .slice P1.MA P1.x.mem.length P1.mc, .int .u64 (P1.x.nep : Int), .slice P1.NA P1.x.nem.length P1.nc, .slice P1.CA P1.x.cut.length P1.cc, .slice P1.OA P1.x.objs.length P1.oc, .slice P1.IA P1.x.ints.length P1.ic, .slice P1.SA P1.x.sess.length P1.sc, .slice P1.WA P1.x.wass.length P1.wc, .slice P1.DA P1.x.down.length P1.dc, .int .u64 (P1.x.last : Int)] _ rfl (fun w' hw' => hw') Tryz.underlying53 rfl Tryz.sizeMet) ⟨hH.1, fun _ => hH.2⟩ ?_
      try simp only [Act.put, List.setIfInBounds_toArray, List.set_cons_zero, List.set_cons_succ]
      refine wpAnyT_stay 15 (v := ?_) rfl (by kernel_rfl) (fun _ _ _ h => h) (Or.inl ⟨by rfl, ?_⟩) ⟨hH.1, fun _ => hH.2⟩ ?_
      rotate_left
      · (intro wx hx; clear hx; go_simp <;> with_reducible rfl)
      try simp only [Act.put, List.setIfInBounds_toArray, List.set_cons_zero, List.set_cons_succ]
      refine wpAnyT_stay 16 (v := ?_) rfl (by kernel_rfl) (fun _ _ _ h => h) (Or.inl ⟨by rfl, ?_⟩) ⟨hH.1, fun _ => hH.2⟩ ?_
      rotate_left
      · (intro wx hx; clear hx; go_simp <;> with_reducible rfl)
      try simp only [Act.put, List.setIfInBounds_toArray, List.set_cons_zero, List.set_cons_succ]
      refine wpAnyT_stay 17 (v := ?_) rfl (by kernel_rfl) (fun _ _ _ h => h) (Or.inl ⟨by rfl, ?_⟩) ⟨hH.1, fun _ => hH.2⟩ ?_
      rotate_left
      · (intro wx hx; clear hx; go_simp <;> with_reducible rfl)
      try simp only [Act.put, List.setIfInBounds_toArray, List.set_cons_zero, List.set_cons_succ]
      refine wpAnyT_stay 18 (v := ?_) rfl (by kernel_rfl) (fun _ _ _ h => h) (Or.inl ⟨by rfl, ?_⟩) ⟨hH.1, fun _ => hH.2⟩ ?_
      rotate_left
      · (intro wx hx; clear hx; go_simp <;> with_reducible rfl)
      try simp only [Act.put, List.setIfInBounds_toArray, List.set_cons_zero, List.set_cons_succ]
      refine wpAnyT_one 14 rfl (by kernel_rfl) (fun K hQ => ?_)
      rw [if_pos (by rfl)]
      go_simp
      (go_at_call 13; refine (HPU.out _ K1).mono ?_; rintro e wf ⟨A5, c5, rfl, r5, hb5⟩; have R5 := Lib.hid r5; have HB5 := Lib.hid hb5; have HB2 := Lib.hid (HBD.out.trans (hb5.mono HBD.out.size)); clear r5 hb5)
      refine hQ.out _ _ ⟨hH.1.below HB5.out hH.1.lt, trivial⟩ (fun hH1 => ?_)
      clear hQ K
      try simp only [Act.put, List.setIfInBounds_toArray, List.set_cons_zero, List.set_cons_succ]
      refine wpAnyT_one 19 rfl (by kernel_rfl) (fun K hQ => ?_)
      rw [if_pos (by rfl)]
      go_simp
      (go_at_call 8; refine (same_any A5 A3_ c5 _ _ _ ys ys _ HBY.out HBY.out R5.out ((S2.out _ (HI0.out.rd.below HB2.out)).more HB2.out.size)).mono ?_; rintro e w' ⟨rfl, rfl⟩)
      refine hQ.out _ _ ⟨hH1.1, trivial⟩ (fun hH2 => ?_)
      clear hQ K
      try simp only [Act.put, List.setIfInBounds_toArray, List.set_cons_zero, List.set_cons_succ]
      refine wpAnyT_stay 20 (v := ?_) rfl (by kernel_rfl) (fun _ _ _ h => h) (Or.inl ⟨by rfl, ?_⟩) ⟨hH2.1, fun _ => hH2.2⟩ ?_
      rotate_left
      · (intro wx hx; clear hx; go_simp <;> with_reducible rfl)
      try simp only [Act.put, List.setIfInBounds_toArray, List.set_cons_zero, List.set_cons_succ]
      refine wpAnyT_stay 21 (v := ?_) rfl (by kernel_rfl) (fun _ _ _ h => h) (Or.inl ⟨by rfl, ?_⟩) ⟨hH2.1, fun _ => hH2.2⟩ ?_
      rotate_left
      · (intro wx hx; clear hx; go_simp <;> with_reducible rfl)
      try simp only [Act.put, List.setIfInBounds_toArray, List.set_cons_zero, List.set_cons_succ]
      refine wpAnyT_last 22 rfl (by kernel_rfl) (by decide) (fun K hQ => ?_)
      rw [if_pos (by rfl)]
      go_simp
      refine hQ.out _ _ hH2.1 (fun hH3 => ?_)
      clear hQ K
      try simp only [Act.put, List.setIfInBounds_toArray, List.set_cons_zero, List.set_cons_succ]
      refine wpAnyT_done (by kernel_rfl) ?_ _
      clear hH hH1 hH2 hH3
      go_wp2_with fail
      go_meet
      case rel => exact ⟨rfl, HB2⟩
    · as_aux_lemma =>
      have dd : (e2 == 0) = false := by rw [beq_eq_false_iff_ne]; exact he
      clear he
      refine wp_region_class (fun w' => Hid (Below w.heap.size w w')) (by kernel_rfl) (by kernel_rfl) (Lib.hid HB.out.drew) ?_
      repeat (first
        | go_big_quiet_skip
        | (go_big_quiet_want; go_big_quiet_op; first
          | go_big_quiet_on
          | (refine ⟨_, fun _ _ => rfl, ?_⟩; go_big_quiet_on)))
      refine wpQuiet_nil ?_
      intro w' hw'
      go_wp2_with fail
      go_meet
      case rel => exact ⟨rfl, hw'⟩
  case rest =>
  as_aux_lemma =>
  obtain ⟨rfl, hbx⟩ := hcut
  have HB := hbx
  clear hbx HX HOK f0 f1 f2 f3 f4 f5 f6 f7 f8 f9 f10 f11 f12 f13
  go_wp2_with (go_at_call 14; refine (heads_any wc).mono ?_; rintro e wh ⟨rfl, hb⟩; have HB := Lib.hid (HB.out.trans (hb.mono HB.out.size)); clear hb)
  go_ret
  exact ⟨rfl, HB.out⟩
theorem walk_PackStates (W : World) (A : Option Addr) (n cap : Nat) (z : List Int) (h : Ints .u8 W A n cap z) (s : n * 1 ≤ 140737488351232) (at_ : Int) (wa : Lit.wf (.int .i64 at_)) :
    Calls Tryz.prog 3 #[.slice A n cap, .int .i64 at_] W fun e w' => e = .returned (.bool true) ∧ Below W.heap.size W w' := by
  obtain ⟨xs, hx, hl, hr, hc, hm⟩ := h.bytes
  exact states_any A n cap xs at_ W (Lib.hid ⟨hr, hx, hl, hc, hm, by omega⟩)
namespace packStates
open Go.ChangeShapes Go.WideShapes Go.ChangeAt Go.RowKit
open Go.ChangeMaps (open_string shut_string)
set_option linter.unusedVariables false
theorem own : ownKnob Tryz.prog.godebug = none := by kernel_rfl
theorem laidOut : laidOutB Tryz.prog = true := by kernel_rfl
set_option maxRecDepth 100000 in
theorem contract (H : Type) (enc : TypeId × Value → H) (W : World) (base : Nat) (args : Array Value) (ds gs : List (DataW H)) (before : List MemPlace)
    (hval0 : ∀ (j : Nat) t v, Tryz.f3.params[j]? = some t → args[j]? = some v → Value.okWide Tryz.prog W .any base t v)
    (hW : DataW.Whole enc Tryz.prog Tryz.f3.params.toList Rows.packStatesSpec.vars false W args.toList ds gs before) (hsz : (DataW.weightsEach Tryz.prog (Tryz.f3.params.toList ++ Rows.packStatesSpec.plain.varTypes Tryz.prog) (ds ++ gs)).all (· ≤ reachBytes) = true) :
    Calls Tryz.prog 3 args W fun e W' => ∃ v, e = .returned v ∧ Rows.packStatesSpec.post enc Tryz.prog Tryz.f3 false true false false W args v W' := by
  have hval : ∀ (j : Nat) t v, Tryz.f3.params[j]? = some t → args[j]? = some v → Value.okWide Tryz.prog W .any base t v := hval0
  have hW' := hW
  obtain ⟨p, q, hA0, hV, rfl, hfz, hnd⟩ := hW
  have hA : DataW.TrodAll enc Tryz.prog W 0 (fun _ => true) true Tryz.f3.params.toList args.toList ds p := hA0
  rw [Tryz.params3] at hA hval
  obtain ⟨v0, vs0, d0, ds0, p0, q0, hargs, rfl, rfl, h0, r0⟩ := trodAll_cons hA
  obtain ⟨v1, vs1, d1, ds1, p1, q1, rfl, rfl, rfl, h1, r1⟩ := trodAll_cons r0
  obtain ⟨rfl, rfl, rfl⟩ := trodAll_nil r1
  obtain rfl : args = #[v0, v1] := by cases args; simp_all
  obtain ⟨rfl, rfl⟩ := trodVars_none hV
  have k0 := h0
  have lt0 : ∀ x ∈ p0, x.block < W.heap.size := by obtain ⟨m, hm⟩ := k0; exact DataW.trod_lt m _ _ _ hm
  have k1 := h1
  have lt1 : ∀ x ∈ p1, x.block < W.heap.size := by obtain ⟨m, hm⟩ := k1; exact DataW.trod_lt m _ _ _ hm
  obtain ⟨A0, len0, cap0, rfl⟩ := okWide_slice Tryz.underlying22 (hval 0 22 v0 rfl rfl)
  obtain ⟨z0, w0⟩ := open_in_ints Tryz.underlying22 Tryz.underlying5 (by kernel_rfl) h0
  have s0 := ints_reach (b := 1) Tryz.underlying22 Tryz.underlying5 (by kernel_rfl) h0 (fun el sr hd => by have := sized_slice hsz (j := 0) (t := 22) (e := 5) (elems := el) (spare := sr) rfl (by subst hd; rfl) Tryz.underlying22; rwa [show Tryz.prog.bytesOf 5 = 1 from by kernel_rfl] at this)
  obtain ⟨a1, rfl, rfl, rfl, w1⟩ := open_int Tryz.underlying3 (hval 1 3 v1 rfl rfl) h1
  clear hA0 hval0
  refine (walk_PackStates W A0 len0 cap0 z0 w0 s0 a1 w1).mono fun e W' ⟨he, bel⟩ => ?_
  subst he
  exact ⟨_, rfl, _, _, _, [], _, [], hW', trodAll_mk1 (shut_bool Tryz.underlying4 _), (trodAll_cons_mk (Below.trod laidOut (by kernel_rfl) (of_decide_eq_true (by kernel_rfl)) k0 bel lt0) (trodAll_cons_mk (Below.trod laidOut (by kernel_rfl) (of_decide_eq_true (by kernel_rfl)) k1 bel lt1) trodAll_mk0)), rfl, bel.frame _, fun h => by cases h⟩
set_option maxRecDepth 100000 in
theorem lifted (os : Os) (started : os.Started) (H : Type) (enc : TypeId × Value → H) :
    ReturnsInHanded {} Tryz.checked os 3 .any (Rows.packStatesSpec.pre6 enc Tryz.prog Tryz.f3 Rows.packStatesRow.domain false) (Rows.packStatesSpec.post enc Tryz.prog Tryz.f3 false true false false) := by
  refine returnsInHanded_of_change_sized (C := Tryz.checked) own started (by kernel_rfl) Tryz.func3
    (ChangeSpec.witness6 (enc := enc) (C := Tryz.checked) false ⟨#[], #[.slice none 0 0, .int .i64 0], []⟩ 8 (by kernel_rfl) (by kernel_rfl) (by kernel_rfl) (by kernel_rfl)) ?_
  intro W base args ds gs before hval hW _ hsz _
  exact contract H enc W base args ds gs before hval hW hsz
theorem over : Rows.packStatesRow.holds Tryz.pinned (OpenSpec.ofChange Rows.packStatesSpec) :=
  OpenClaim.holds_of_wide 3 Tryz.f3 rfl rfl rfl rfl rfl rfl rfl ⟨rfl, rfl, rfl, rfl, rfl⟩ rfl rfl rfl rfl rfl (by kernel_rfl) Tryz.func3 (by kernel_rfl)
    (of_decide_eq_true (by kernel_rfl)) (by unfold Func.isWrapper; first | (rw [if_pos (by decide +kernel)]; kernel_rfl) | (rw [if_neg (by decide +kernel)]; exact ⟨rfl, rfl⟩))
    (fun os started H enc _ => lifted os started H enc)
/-- THE STATEMENT. -/
theorem proved : Rows.PackStatesSaid := over
end packStates
end Go.Proofs.YthgiafjiemiifaaGreat
