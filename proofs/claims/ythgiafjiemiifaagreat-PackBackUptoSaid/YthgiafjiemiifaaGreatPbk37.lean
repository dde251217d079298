/-
  WHAT P COMES TO for states. Plain. (printed by gen_pameta.py); THE PROGRAM'S WRITER: the closures of a state. (printed by gen_pas7.py). (joined out of PaQ19, PaS7 by shake.py)
-/
import Derived.Test.YthgiafjiemiifaaGreatPbk36
import Derived.Test.YthgiafjiemiifaaGreatPbk19
import Derived.Test.YthgiafjiemiifaaGreatPbk32
section
namespace Go.Proofs.YthgiafjiemiifaaGreat
open Go.RowKit OctMath
set_option linter.unusedVariables false
set_option linter.unusedSimpArgs false
set_option linter.unusedSectionVars false
theorem w_obj (g : Nat) (s : List Nat) (x : ObjT) : (objF (wMd g) s x).1 = s ++ pObj x := by
  show (intsF (wMd g) (s ++ (putN x.key.length ++ x.key) ++ putN x.version ++ putN (zz x.size) ++ putN x.sum ++ putN (zz x.group) ++ putN x.epoch) x.nodes).1 = _
  rw [w_ints]
  simp only [pObj, pInt, pText, List.append_assoc]
theorem w_inte (g : Nat) (s : List Nat) (x : IntT) : (inteF (wMd g) s x).1 = s ++ pIntent x := by
  show ((objF (wMd g) s x.obj).1 ++ putN x.client ++ putN x.seq) = _
  rw [w_obj]
  simp only [pIntent, List.append_assoc]
theorem w_ses (g : Nat) (s : List Nat) (x : SesT) : (sesF (wMd g) s x).1 = s ++ pSes x := by
  show (s ++ putN x.client ++ putN x.seq ++ [x.opn.toNat] ++ putN x.version ++ putN (zz x.code)) = _
  rw [w_flag]
  simp only [pSes, pInt, List.append_assoc]
theorem w_was (g : Nat) (s : List Nat) (x : WasT) : (wasF (wMd g) s x).1 = s ++ pWas x := by
  show ((idF (wMd g) s x.id).1 ++ putN (zz x.node)) = _
  rw [w_id]
  simp only [pWas, pInt, List.append_assoc]
theorem w_objs (g : Nat) (s : List Nat) (l : List ObjT) : (objsF (wMd g) s l).1 = s ++ pList pObj l := by
  have h := w_it g (one := objF (wMd g)) (put := pObj) (fun s x => w_obj g s x) l zOM.x (s ++ putN l.length) l.length (Nat.le_refl _)
  rw [List.take_length] at h
  show (itF (wMd g) (objF (wMd g)) (fun i => l.getD i zOM.x) l.length (s ++ putN l.length)).1 = _
  rw [h]; unfold pList; rw [List.append_assoc]
theorem w_ints2 (g : Nat) (s : List Nat) (l : List IntT) : (ints2F (wMd g) s l).1 = s ++ pList pIntent l := by
  have h := w_it g (one := inteF (wMd g)) (put := pIntent) (fun s x => w_inte g s x) l zIM.x (s ++ putN l.length) l.length (Nat.le_refl _)
  rw [List.take_length] at h
  show (itF (wMd g) (inteF (wMd g)) (fun i => l.getD i zIM.x) l.length (s ++ putN l.length)).1 = _
  rw [h]; unfold pList; rw [List.append_assoc]
theorem w_sess (g : Nat) (s : List Nat) (l : List SesT) : (sessF (wMd g) s l).1 = s ++ pList pSes l := by
  have h := w_it g (one := sesF (wMd g)) (put := pSes) (fun s x => w_ses g s x) l zSes (s ++ putN l.length) l.length (Nat.le_refl _)
  rw [List.take_length] at h
  show (itF (wMd g) (sesF (wMd g)) (fun i => l.getD i zSes) l.length (s ++ putN l.length)).1 = _
  rw [h]; unfold pList; rw [List.append_assoc]
theorem w_wass (g : Nat) (s : List Nat) (l : List WasT) : (wassF (wMd g) s l).1 = s ++ pList pWas l := by
  have h := w_it g (one := wasF (wMd g)) (put := pWas) (fun s x => w_was g s x) l zWas (s ++ putN l.length) l.length (Nat.le_refl _)
  rw [List.take_length] at h
  show (itF (wMd g) (wasF (wMd g)) (fun i => l.getD i zWas) l.length (s ++ putN l.length)).1 = _
  rw [h]; unfold pList; rw [List.append_assoc]
theorem w_met (g : Nat) (s : List Nat) (x : MetT) : (metF (wMd g) s x).1 = s ++ pMet x := by
  show ((intsF (wMd g) (wassF (wMd g) (sessF (wMd g) (ints2F (wMd g) (objsF (wMd g) (intsF (wMd g) (mapF (wMd g) (mapF (wMd g) (s ++ putN (zz x.k) ++ putN (zz x.n) ++ putN (zz x.groups)) (x.mep, x.mem)).1 (x.nep, x.nem)).1 x.cut).1 x.objs).1 x.ints).1 x.sess).1 x.wass).1 x.down).1 ++ putN x.last) = _
  rw [w_ints, w_wass, w_sess, w_ints2, w_objs, w_ints, w_map, w_map]
  simp only [pMet, pInt, List.append_assoc]
def met0 : MetT := ⟨0, 0, 0, 0, [], 0, [], [], [], [], [], [], [], 0⟩
theorem met0_ok : MetOk met0 := by
  constructor <;> first | decide | exact ⟨by decide, by decide⟩ | exact ⟨fun y h => (List.not_mem_nil h).elim, by decide⟩ | exact ⟨by decide, fun y h => (List.not_mem_nil h).elim, by decide⟩
section
variable {bs : List Nat} (hb : Byt bs) {g n cap : Nat} {A : Option Addr}
include hb
end
end Go.Proofs.YthgiafjiemiifaaGreat
end
section
namespace Go.Proofs.YthgiafjiemiifaaGreat
open Go.RowKit OctMath
set_option linter.unusedVariables false
set_option maxRecDepth 100000 in
set_option maxHeartbeats 4000000 in
theorem sh_meta1 (H : Nat → Prop) (g : Nat) (xs : List Nat) (A : Option Addr) (c : Nat) (x : IntT) (b : Nat) (w : World) (hp : Hid (Sh H g xs w)) (hS : Hid (Safe H g w)) (HBX : Hid (Blk w b 84 #[.pointer (some ⟨g, 0, none⟩)])) (hHb : Hid (H b)) (hK : Hid (Reads w w.heap.size 1 A x.obj.nodes.length (x.obj.nodes.map iv))) (hKH : Hid (0 < x.obj.nodes.length → ∀ ad, A = some ad → H ad.block)) (HO : InteOk x) (hl : xs.length + 11534520 ≤ 70000000000000) :
    Calls Tryz.prog 76 #[.agg #[.string (strOf x.obj.key), .int .u64 (x.obj.version : Int), .int .i64 x.obj.size, .int .u32 (x.obj.sum : Int), .int .i64 x.obj.group, .int .u64 (x.obj.epoch : Int), .slice A x.obj.nodes.length c, .int .u64 (x.client : Int), .int .u64 (x.seq : Int)], .pointer (some ⟨b, 0, none⟩)] w (RetW H g (xs ++ pIntent x) w) := by
  have HO := Lib.hid HO
  have HL := Lib.hid hl
  obtain ⟨w0, ew0⟩ : ∃ w0, w.alloc (.cells #[.string (strOf x.obj.key), .int .u64 (x.obj.version : Int), .int .i64 x.obj.size, .int .u32 (x.obj.sum : Int), .int .i64 x.obj.group, .int .u64 (x.obj.epoch : Int), .slice A x.obj.nodes.length c, .int .u64 (x.client : Int), .int .u64 (x.seq : Int)] 65) = w0 := ⟨_, rfl⟩
  have hb : Below w.heap.size w (w.alloc (.cells #[.string (strOf x.obj.key), .int .u64 (x.obj.version : Int), .int .i64 x.obj.size, .int .u32 (x.obj.sum : Int), .int .i64 x.obj.group, .int .u64 (x.obj.epoch : Int), .slice A x.obj.nodes.length c, .int .u64 (x.client : Int), .int .u64 (x.seq : Int)] 65)) := (Below.refl _ _).alloc (Nat.le_refl _) _
  have hx : Blk (w.alloc (.cells #[.string (strOf x.obj.key), .int .u64 (x.obj.version : Int), .int .i64 x.obj.size, .int .u32 (x.obj.sum : Int), .int .i64 x.obj.group, .int .u64 (x.obj.epoch : Int), .slice A x.obj.nodes.length c, .int .u64 (x.client : Int), .int .u64 (x.seq : Int)] 65)) w.heap.size 65 #[.string (strOf x.obj.key), .int .u64 (x.obj.version : Int), .int .i64 x.obj.size, .int .u32 (x.obj.sum : Int), .int .i64 x.obj.group, .int .u64 (x.obj.epoch : Int), .slice A x.obj.nodes.length c, .int .u64 (x.client : Int), .int .u64 (x.seq : Int)] := Blk.new w _ _
  rw [ew0] at hb hx
  obtain ⟨H2, eH⟩ : ∃ H2 : Nat → Prop, (fun k => H k ∨ k = w.heap.size) = H2 := ⟨_, rfl⟩
  have h12 : ∀ k, H k → H2 k := fun k hk => by rw [← eH]; exact .inl hk
  have h2b : H2 w.heap.size := by rw [← eH]; exact .inr rfl
  have HP := Lib.hid (show Sh H2 g xs w0 from (hp.out.mono (fun k hk => by rw [← eH] at hk; exact hk.imp id (fun e => by omega))).later hb)
  have HS := Lib.hid (show Safe H2 g w0 from fun k hk => by rw [← eH] at hk; rcases hk with hk | hk; exact ⟨Nat.lt_of_lt_of_le (hS.out k hk).1 hb.size, (hS.out k hk).2⟩; exact ⟨by rw [hk]; exact hx.lt, by have := hp.out.lt; omega⟩)
  have HK := Lib.hid (Keep.below hb : Keep H w w0)
  have HX := Lib.hid hx
  have HB := Lib.hid (HBX.out.below hb HBX.out.lt)
  have K := Lib.hid (hK.out.later hb)
  have H12 := Lib.hid h12
  have H2B := Lib.hid h2b
  clear hb hx eH h12 h2b
  have c0 := HX.out.cell 0
  have c1 := HX.out.cell 1
  have c2 := HX.out.cell 2
  have c3 := HX.out.cell 3
  have c4 := HX.out.cell 4
  have c5 := HX.out.cell 5
  have c6 := HX.out.cell 6
  have cb := HB.out.cell 0
  go_enter Tryz.func76, Tryz.ntmps76
  go_wp2_with fail
  clear ew0
  refine (sh_object H2 g xs A c x.obj _ HP HS K (Lib.hid (fun h ad e => H12.out _ (hKH.out h ad e))) HO.out.obj (by have := HL.out; omega)).mono ?_
  clear cb
  rintro e w1 ⟨rfl, h1, h2⟩
  clear c0
  clear c1
  clear c2
  clear c3
  clear c4
  clear c5
  clear c6
  obtain ⟨y1, hy⟩ : ∃ y, xs ++ pObj x.obj = y := ⟨_, rfl⟩
  rw [hy] at h1
  have HL := Lib.hid (show y1.length + 20 ≤ 70000000000000 from by have h3 := HL.out; have h4 := pObj_len (x := x.obj) HO.out.obj; rw [← hy, List.length_append]; omega)
  have HY1 := Lib.hid hy
  have HP := Lib.hid h1
  have HS := Lib.hid (HS.out.keep h2)
  have HX := Lib.hid (h2.blk HX.out H2B.out)
  have HB := Lib.hid (h2.blk HB.out (H12.out _ hHb.out))
  have HK := Lib.hid (HK.out.trans (h2.mono H12.out))
  have K := Lib.hid (h2.reads K.out (fun h ad e => H12.out _ (hKH.out h ad e)))
  clear h1 h2 hy
  have c7 := HX.out.cell 7
  have cb := HB.out.cell 0
  go_wp2_with fail
  refine (sh_number H2 g y1 x.client _ HP HS HO.out.client (by have := HL.out; omega)).mono ?_
  clear cb
  rintro e w2 ⟨rfl, h1, h2⟩
  clear c7
  obtain ⟨y2, hy⟩ : ∃ y, y1 ++ putN x.client = y := ⟨_, rfl⟩
  rw [hy] at h1
  have HL := Lib.hid (show y2.length + 10 ≤ 70000000000000 from by have h3 := HL.out; have h4 := putN_len10 (n := x.client) HO.out.client; rw [← hy, List.length_append]; omega)
  have HY2 := Lib.hid hy
  have HP := Lib.hid h1
  have HS := Lib.hid (HS.out.keep h2)
  have HX := Lib.hid (h2.blk HX.out H2B.out)
  have HB := Lib.hid (h2.blk HB.out (H12.out _ hHb.out))
  have HK := Lib.hid (HK.out.trans (h2.mono H12.out))
  have K := Lib.hid (h2.reads K.out (fun h ad e => H12.out _ (hKH.out h ad e)))
  clear h1 h2 hy
  have c8 := HX.out.cell 8
  have cb := HB.out.cell 0
  go_wp2_with fail
  refine (sh_number H2 g y2 x.seq _ HP HS HO.out.seq (by have := HL.out; omega)).mono ?_
  clear cb
  rintro e w3 ⟨rfl, h1, h2⟩
  clear c8
  obtain ⟨y3, hy⟩ : ∃ y, y2 ++ putN x.seq = y := ⟨_, rfl⟩
  rw [hy] at h1
  have HL := Lib.hid (show y3.length + 0 ≤ 70000000000000 from by have h3 := HL.out; have h4 := putN_len10 (n := x.seq) HO.out.seq; rw [← hy, List.length_append]; omega)
  have HY3 := Lib.hid hy
  have HP := Lib.hid h1
  have HS := Lib.hid (HS.out.keep h2)
  have HX := Lib.hid (h2.blk HX.out H2B.out)
  have HB := Lib.hid (h2.blk HB.out (H12.out _ hHb.out))
  have HK := Lib.hid (HK.out.trans (h2.mono H12.out))
  have K := Lib.hid (h2.reads K.out (fun h ad e => H12.out _ (hKH.out h ad e)))
  clear h1 h2 hy
  go_wp2
  go_end0
  have hz : xs ++ pIntent x = y3 := by
    rw [← HY3.out, ← HY2.out, ← HY1.out]
    unfold pIntent
    simp only [List.append_assoc]
  rw [hz]
  exact ⟨rfl, HP.out.mono (fun k hk => .inl (H12.out k hk)), HK.out⟩
set_option maxRecDepth 100000 in
set_option maxHeartbeats 4000000 in
theorem sh_meta2 (H : Nat → Prop) (g : Nat) (xs : List Nat) (x : SesT) (b : Nat) (w : World) (hp : Hid (Sh H g xs w)) (hS : Hid (Safe H g w)) (HBX : Hid (Blk w b 84 #[.pointer (some ⟨g, 0, none⟩)])) (hHb : Hid (H b))  (HO : SesOk x) (hl : xs.length + 50 ≤ 70000000000000) :
    Calls Tryz.prog 78 #[.agg #[.int .u64 (x.client : Int), .int .u64 (x.seq : Int), .bool x.opn, .int .u64 (x.version : Int), .int .i64 x.code], .pointer (some ⟨b, 0, none⟩)] w (RetW H g (xs ++ pSes x) w) := by
  have HO := Lib.hid HO
  have HL := Lib.hid hl
  obtain ⟨w0, ew0⟩ : ∃ w0, w.alloc (.cells #[.int .u64 (x.client : Int), .int .u64 (x.seq : Int), .bool x.opn, .int .u64 (x.version : Int), .int .i64 x.code] 132) = w0 := ⟨_, rfl⟩
  have hb : Below w.heap.size w (w.alloc (.cells #[.int .u64 (x.client : Int), .int .u64 (x.seq : Int), .bool x.opn, .int .u64 (x.version : Int), .int .i64 x.code] 132)) := (Below.refl _ _).alloc (Nat.le_refl _) _
  have hx : Blk (w.alloc (.cells #[.int .u64 (x.client : Int), .int .u64 (x.seq : Int), .bool x.opn, .int .u64 (x.version : Int), .int .i64 x.code] 132)) w.heap.size 132 #[.int .u64 (x.client : Int), .int .u64 (x.seq : Int), .bool x.opn, .int .u64 (x.version : Int), .int .i64 x.code] := Blk.new w _ _
  rw [ew0] at hb hx
  obtain ⟨H2, eH⟩ : ∃ H2 : Nat → Prop, (fun k => H k ∨ k = w.heap.size) = H2 := ⟨_, rfl⟩
  have h12 : ∀ k, H k → H2 k := fun k hk => by rw [← eH]; exact .inl hk
  have h2b : H2 w.heap.size := by rw [← eH]; exact .inr rfl
  have HP := Lib.hid (show Sh H2 g xs w0 from (hp.out.mono (fun k hk => by rw [← eH] at hk; exact hk.imp id (fun e => by omega))).later hb)
  have HS := Lib.hid (show Safe H2 g w0 from fun k hk => by rw [← eH] at hk; rcases hk with hk | hk; exact ⟨Nat.lt_of_lt_of_le (hS.out k hk).1 hb.size, (hS.out k hk).2⟩; exact ⟨by rw [hk]; exact hx.lt, by have := hp.out.lt; omega⟩)
  have HK := Lib.hid (Keep.below hb : Keep H w w0)
  have HX := Lib.hid hx
  have HB := Lib.hid (HBX.out.below hb HBX.out.lt)
  have H12 := Lib.hid h12
  have H2B := Lib.hid h2b
  clear hb hx eH h12 h2b
  have c0 := HX.out.cell 0
  have cb := HB.out.cell 0
  go_enter Tryz.func78, Tryz.ntmps78
  go_wp2_with fail
  clear ew0
  refine (sh_number H2 g xs x.client _ HP HS HO.out.client (by have := HL.out; omega)).mono ?_
  clear cb
  rintro e w1 ⟨rfl, h1, h2⟩
  clear c0
  obtain ⟨y1, hy⟩ : ∃ y, xs ++ putN x.client = y := ⟨_, rfl⟩
  rw [hy] at h1
  have HL := Lib.hid (show y1.length + 40 ≤ 70000000000000 from by have h3 := HL.out; have h4 := putN_len10 (n := x.client) HO.out.client; rw [← hy, List.length_append]; omega)
  have HY1 := Lib.hid hy
  have HP := Lib.hid h1
  have HS := Lib.hid (HS.out.keep h2)
  have HX := Lib.hid (h2.blk HX.out H2B.out)
  have HB := Lib.hid (h2.blk HB.out (H12.out _ hHb.out))
  have HK := Lib.hid (HK.out.trans (h2.mono H12.out))
  clear h1 h2 hy
  have c1 := HX.out.cell 1
  have cb := HB.out.cell 0
  go_wp2_with fail
  refine (sh_number H2 g y1 x.seq _ HP HS HO.out.seq (by have := HL.out; omega)).mono ?_
  clear cb
  rintro e w2 ⟨rfl, h1, h2⟩
  clear c1
  obtain ⟨y2, hy⟩ : ∃ y, y1 ++ putN x.seq = y := ⟨_, rfl⟩
  rw [hy] at h1
  have HL := Lib.hid (show y2.length + 30 ≤ 70000000000000 from by have h3 := HL.out; have h4 := putN_len10 (n := x.seq) HO.out.seq; rw [← hy, List.length_append]; omega)
  have HY2 := Lib.hid hy
  have HP := Lib.hid h1
  have HS := Lib.hid (HS.out.keep h2)
  have HX := Lib.hid (h2.blk HX.out H2B.out)
  have HB := Lib.hid (h2.blk HB.out (H12.out _ hHb.out))
  have HK := Lib.hid (HK.out.trans (h2.mono H12.out))
  clear h1 h2 hy
  have c2 := HX.out.cell 2
  have cb := HB.out.cell 0
  go_wp2_with fail
  refine (sh_flag H2 g y2 x.opn _ HP HS (by have := HL.out; omega)).mono ?_
  clear cb
  rintro e w3 ⟨rfl, h1, h2⟩
  clear c2
  obtain ⟨y3, hy⟩ : ∃ y, y2 ++ pFlag x.opn = y := ⟨_, rfl⟩
  rw [hy] at h1
  have HL := Lib.hid (show y3.length + 20 ≤ 70000000000000 from by have h3 := HL.out; have h4 := pFlag_len x.opn; rw [← hy, List.length_append]; omega)
  have HY3 := Lib.hid hy
  have HP := Lib.hid h1
  have HS := Lib.hid (HS.out.keep h2)
  have HX := Lib.hid (h2.blk HX.out H2B.out)
  have HB := Lib.hid (h2.blk HB.out (H12.out _ hHb.out))
  have HK := Lib.hid (HK.out.trans (h2.mono H12.out))
  clear h1 h2 hy
  have c3 := HX.out.cell 3
  have cb := HB.out.cell 0
  go_wp2_with fail
  refine (sh_number H2 g y3 x.version _ HP HS HO.out.version (by have := HL.out; omega)).mono ?_
  clear cb
  rintro e w4 ⟨rfl, h1, h2⟩
  clear c3
  obtain ⟨y4, hy⟩ : ∃ y, y3 ++ putN x.version = y := ⟨_, rfl⟩
  rw [hy] at h1
  have HL := Lib.hid (show y4.length + 10 ≤ 70000000000000 from by have h3 := HL.out; have h4 := putN_len10 (n := x.version) HO.out.version; rw [← hy, List.length_append]; omega)
  have HY4 := Lib.hid hy
  have HP := Lib.hid h1
  have HS := Lib.hid (HS.out.keep h2)
  have HX := Lib.hid (h2.blk HX.out H2B.out)
  have HB := Lib.hid (h2.blk HB.out (H12.out _ hHb.out))
  have HK := Lib.hid (HK.out.trans (h2.mono H12.out))
  clear h1 h2 hy
  have c4 := HX.out.cell 4
  have cb := HB.out.cell 0
  go_wp2_with fail
  refine (sh_int H2 g y4 x.code _ HP HS HO.out.code (by have := HL.out; omega)).mono ?_
  clear cb
  rintro e w5 ⟨rfl, h1, h2⟩
  clear c4
  obtain ⟨y5, hy⟩ : ∃ y, y4 ++ pInt x.code = y := ⟨_, rfl⟩
  rw [hy] at h1
  have HL := Lib.hid (show y5.length + 0 ≤ 70000000000000 from by have h3 := HL.out; have h4 := pInt_len (x := x.code) HO.out.code; rw [← hy, List.length_append]; omega)
  have HY5 := Lib.hid hy
  have HP := Lib.hid h1
  have HS := Lib.hid (HS.out.keep h2)
  have HX := Lib.hid (h2.blk HX.out H2B.out)
  have HB := Lib.hid (h2.blk HB.out (H12.out _ hHb.out))
  have HK := Lib.hid (HK.out.trans (h2.mono H12.out))
  clear h1 h2 hy
  go_wp2
  go_end0
  have hz : xs ++ pSes x = y5 := by
    rw [← HY5.out, ← HY4.out, ← HY3.out, ← HY2.out, ← HY1.out]
    unfold pSes
    simp only [List.append_assoc]
  rw [hz]
  exact ⟨rfl, HP.out.mono (fun k hk => .inl (H12.out k hk)), HK.out⟩
set_option maxRecDepth 100000 in
set_option maxHeartbeats 4000000 in
theorem sh_meta3 (H : Nat → Prop) (g : Nat) (xs : List Nat) (x : WasT) (b : Nat) (w : World) (hp : Hid (Sh H g xs w)) (hS : Hid (Safe H g w)) (HBX : Hid (Blk w b 84 #[.pointer (some ⟨g, 0, none⟩)])) (hHb : Hid (H b))  (HO : WasOk x) (hl : xs.length + 40 ≤ 70000000000000) :
    Calls Tryz.prog 81 #[.agg #[.int .u64 (x.id.ver : Int), .int .i64 x.id.idx, .int .u64 (x.id.ep : Int), .int .i64 x.node], .pointer (some ⟨b, 0, none⟩)] w (RetW H g (xs ++ pWas x) w) := by
  have HO := Lib.hid HO
  have HL := Lib.hid hl
  obtain ⟨w0, ew0⟩ : ∃ w0, w.alloc (.cells #[.int .u64 (x.id.ver : Int), .int .i64 x.id.idx, .int .u64 (x.id.ep : Int), .int .i64 x.node] 136) = w0 := ⟨_, rfl⟩
  have hb : Below w.heap.size w (w.alloc (.cells #[.int .u64 (x.id.ver : Int), .int .i64 x.id.idx, .int .u64 (x.id.ep : Int), .int .i64 x.node] 136)) := (Below.refl _ _).alloc (Nat.le_refl _) _
  have hx : Blk (w.alloc (.cells #[.int .u64 (x.id.ver : Int), .int .i64 x.id.idx, .int .u64 (x.id.ep : Int), .int .i64 x.node] 136)) w.heap.size 136 #[.int .u64 (x.id.ver : Int), .int .i64 x.id.idx, .int .u64 (x.id.ep : Int), .int .i64 x.node] := Blk.new w _ _
  rw [ew0] at hb hx
  obtain ⟨H2, eH⟩ : ∃ H2 : Nat → Prop, (fun k => H k ∨ k = w.heap.size) = H2 := ⟨_, rfl⟩
  have h12 : ∀ k, H k → H2 k := fun k hk => by rw [← eH]; exact .inl hk
  have h2b : H2 w.heap.size := by rw [← eH]; exact .inr rfl
  have HP := Lib.hid (show Sh H2 g xs w0 from (hp.out.mono (fun k hk => by rw [← eH] at hk; exact hk.imp id (fun e => by omega))).later hb)
  have HS := Lib.hid (show Safe H2 g w0 from fun k hk => by rw [← eH] at hk; rcases hk with hk | hk; exact ⟨Nat.lt_of_lt_of_le (hS.out k hk).1 hb.size, (hS.out k hk).2⟩; exact ⟨by rw [hk]; exact hx.lt, by have := hp.out.lt; omega⟩)
  have HK := Lib.hid (Keep.below hb : Keep H w w0)
  have HX := Lib.hid hx
  have HB := Lib.hid (HBX.out.below hb HBX.out.lt)
  have H12 := Lib.hid h12
  have H2B := Lib.hid h2b
  clear hb hx eH h12 h2b
  have c0 := HX.out.cell 0
  have c1 := HX.out.cell 1
  have c2 := HX.out.cell 2
  have cb := HB.out.cell 0
  go_enter Tryz.func81, Tryz.ntmps81
  go_wp2_with fail
  clear ew0
  refine (sh_id H2 g xs x.id _ HP HS HO.out.id (by have := HL.out; omega)).mono ?_
  clear cb
  rintro e w1 ⟨rfl, h1, h2⟩
  clear c0
  clear c1
  clear c2
  obtain ⟨y1, hy⟩ : ∃ y, xs ++ pId x.id = y := ⟨_, rfl⟩
  rw [hy] at h1
  have HL := Lib.hid (show y1.length + 10 ≤ 70000000000000 from by have h3 := HL.out; have h4 := pId_len (x := x.id) HO.out.id; rw [← hy, List.length_append]; omega)
  have HY1 := Lib.hid hy
  have HP := Lib.hid h1
  have HS := Lib.hid (HS.out.keep h2)
  have HX := Lib.hid (h2.blk HX.out H2B.out)
  have HB := Lib.hid (h2.blk HB.out (H12.out _ hHb.out))
  have HK := Lib.hid (HK.out.trans (h2.mono H12.out))
  clear h1 h2 hy
  have c3 := HX.out.cell 3
  have cb := HB.out.cell 0
  go_wp2_with fail
  refine (sh_int H2 g y1 x.node _ HP HS HO.out.node (by have := HL.out; omega)).mono ?_
  clear cb
  rintro e w2 ⟨rfl, h1, h2⟩
  clear c3
  obtain ⟨y2, hy⟩ : ∃ y, y1 ++ pInt x.node = y := ⟨_, rfl⟩
  rw [hy] at h1
  have HL := Lib.hid (show y2.length + 0 ≤ 70000000000000 from by have h3 := HL.out; have h4 := pInt_len (x := x.node) HO.out.node; rw [← hy, List.length_append]; omega)
  have HY2 := Lib.hid hy
  have HP := Lib.hid h1
  have HS := Lib.hid (HS.out.keep h2)
  have HX := Lib.hid (h2.blk HX.out H2B.out)
  have HB := Lib.hid (h2.blk HB.out (H12.out _ hHb.out))
  have HK := Lib.hid (HK.out.trans (h2.mono H12.out))
  clear h1 h2 hy
  go_wp2
  go_end0
  have hz : xs ++ pWas x = y2 := by
    rw [← HY2.out, ← HY1.out]
    unfold pWas
    simp only [List.append_assoc]
  rw [hz]
  exact ⟨rfl, HP.out.mono (fun k hk => .inl (H12.out k hk)), HK.out⟩
end Go.Proofs.YthgiafjiemiifaaGreat
end
