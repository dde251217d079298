/-
  THE REFERENCE's PART of a message, kind by kind. (printed by gen_wirc6.py); THE REFERENCE's PART of a message, more kinds. (printed by gen_wirc6.py). (joined out of WirC6, WirC6a by shake.py)
-/
import Derived.Test.YtlnneacgllhdhaaGreatDoorWpv26
import Derived.Test.YtlnneacgllhdhaaGreatDoorWpv05
section
namespace Go.Proofs.YtlnneacgllhdhaaGreatDoor
open Go.RowKit OctMath
set_option linter.unusedVariables false
set_option linter.unusedSimpArgs false
theorem sizeMs6 : (Tryz.prog.info? 38).map (·.size) = some 27 := by kernel_rfl
def pM : Nat → MG → MG
  | 1, m => ⟨⟨m.x.kind, m.x.from_, m.x.to_, m.x.term, m.x.index, m.x.logTerm, 0, 0, false, m.x.force, [], [], [], ⟨⟨0, 0, 0⟩, 0, 0, 0, 0⟩, [], 0, 0, 0, [], 0, []⟩, [], none, 0, none, 0, none, 0, none, 0, none, 0⟩
  | 2, m => ⟨⟨m.x.kind, m.x.from_, m.x.to_, m.x.term, 0, 0, 0, 0, m.x.okf, false, [], [], [], ⟨⟨0, 0, 0⟩, 0, 0, 0, 0⟩, [], 0, 0, 0, [], 0, []⟩, [], none, 0, none, 0, none, 0, none, 0, none, 0⟩
  | 3, m => ⟨⟨m.x.kind, m.x.from_, m.x.to_, 0, 0, 0, 0, 0, false, false, [], [], [], m.x.head, [], 0, 0, 0, [], 0, []⟩, [], none, 0, none, 0, none, 0, none, 0, none, 0⟩
  | 4, m => ⟨⟨m.x.kind, m.x.from_, m.x.to_, 0, 0, 0, 0, m.x.ctx, false, false, [], [], [], ⟨⟨0, 0, 0⟩, 0, 0, 0, 0⟩, [], 0, 0, 0, [], 0, []⟩, [], none, 0, none, 0, none, 0, none, 0, none, 0⟩
  | 5, m => ⟨⟨m.x.kind, m.x.from_, m.x.to_, m.x.term, m.x.index, m.x.logTerm, m.x.commit, m.x.ctx, false, false, m.x.ents, [], [], ⟨⟨0, 0, 0⟩, 0, 0, 0, 0⟩, [], 0, 0, 0, [], 0, []⟩, m.es, m.Ae, m.ce, none, 0, none, 0, none, 0, none, 0⟩
  | 6, m => ⟨⟨m.x.kind, m.x.from_, m.x.to_, m.x.term, m.x.index, 0, 0, m.x.ctx, m.x.okf, false, [], [], [], ⟨⟨0, 0, 0⟩, 0, 0, 0, 0⟩, [], 0, 0, 0, [], 0, []⟩, [], none, 0, none, 0, none, 0, none, 0, none, 0⟩
  | 7, m => ⟨⟨m.x.kind, m.x.from_, m.x.to_, m.x.term, m.x.index, m.x.logTerm, 0, 0, false, false, [], m.x.vot, m.x.lea, ⟨⟨0, 0, 0⟩, 0, 0, 0, 0⟩, m.x.data, 0, 0, 0, [], 0, []⟩, [], none, 0, m.Av, m.cv, m.Al, m.cl, m.Ad, m.cd, none, 0⟩
  | 8, m => ⟨⟨m.x.kind, m.x.from_, m.x.to_, m.x.term, 0, 0, 0, 0, false, false, [], [], [], ⟨⟨0, 0, 0⟩, 0, 0, 0, 0⟩, [], 0, 0, 0, [], 0, []⟩, [], none, 0, none, 0, none, 0, none, 0, none, 0⟩
  | 9, m => ⟨⟨m.x.kind, m.x.from_, m.x.to_, 0, 0, 0, 0, 0, false, false, [], [], [], m.x.head, m.x.data, 0, 0, 0, [], 0, []⟩, [], none, 0, none, 0, none, 0, m.Ad, m.cd, none, 0⟩
  | 10, m => ⟨⟨m.x.kind, m.x.from_, m.x.to_, 0, 0, 0, 0, 0, m.x.okf, false, [], [], [], m.x.head, [], 0, 0, 0, [], 0, []⟩, [], none, 0, none, 0, none, 0, none, 0, none, 0⟩
  | 11, m => ⟨⟨m.x.kind, m.x.from_, m.x.to_, 0, 0, 0, 0, 0, m.x.okf, false, [], [], [], m.x.head, m.x.data, 0, 0, 0, [], 0, []⟩, [], none, 0, none, 0, none, 0, m.Ad, m.cd, none, 0⟩
  | 12, m => ⟨⟨m.x.kind, m.x.from_, m.x.to_, 0, 0, 0, 0, 0, false, false, [], [], [], ⟨⟨0, 0, 0⟩, 0, 0, 0, 0⟩, m.x.data, m.x.client, m.x.seq, m.x.op, m.x.key, 0, []⟩, [], none, 0, none, 0, none, 0, m.Ad, m.cd, none, 0⟩
  | 13, m => ⟨⟨m.x.kind, m.x.from_, m.x.to_, 0, 0, 0, 0, m.x.ctx, false, false, [], [], [], ⟨⟨0, 0, 0⟩, 0, 0, 0, 0⟩, m.x.data, m.x.client, m.x.seq, 0, [], m.x.code, m.x.names⟩, [], none, 0, none, 0, none, 0, m.Ad, m.cd, m.An, m.cn⟩
  | _, m => ⟨⟨m.x.kind, m.x.from_, m.x.to_, 0, 0, 0, 0, 0, false, false, [], [], [], ⟨⟨0, 0, 0⟩, 0, 0, 0, 0⟩, [], 0, 0, 0, [], 0, []⟩, [], none, 0, none, 0, none, 0, none, 0, none, 0⟩
theorem wp_store_part {P : Program} {op : Oper} {a : Act} {w : World} {K : Act → World → Prop} {Q : Exit → Act → World → Prop} (ty : TypeId) (x y : Operand) (ho : op.op = .store ty x y) (g o : Nat) (t : TypeId) (cs cs' vs : Array Value) (hx : a.eval x = .pointer (some ⟨g, o, none⟩)) (hy : a.eval y = .agg vs)
    (hB : Blk w g t cs) (hs : o + vs.size ≤ cs.size) (he : setL cs o vs.toList = cs') (hi : (P.info? ty).map (·.size) = some vs.size) (h1 : vs.toList.all (·.oneCell') = true) (h : ∀ w', Hid (Blk w' g t cs') → Hid (Only g w w') → K (a.put op.dst undef) w') : op.wp P a w K Q := by
  have e := setCells_part g t vs.toList o w cs hB
  rw [he] at e
  refine wp_store_mid ty x y ho g o vs hx hy (fun j hj => ?_) hi (Array.all_eq_true_iff_forall_mem.2 (fun v hv => List.all_eq_true.1 h1 v (by simpa using hv))) (h _ (Lh e.1) (Lh e.2))
  rw [hB.cell]
  exact ⟨by rw [Array.getElem?_eq_getElem (by omega)]; rfl, hB.frozen _⟩
def RetPart (p : MG) (ok : Bool) (w : World) (e : Ending) (w' : World) : Prop := e = .returned (.tuple #[.agg (mgCs p), .bool ok]) ∧ Below w.heap.size w w' 
def partZ (k : Int) (m : MG) : Array Value := #[.int .i64 k, .int .i64 m.x.from_, .int .i64 m.x.to_, .int .u64 0, .int .u64 0, .int .u64 0, .int .u64 0, .int .u64 0, .bool false, .bool false, .slice none 0 0, .slice none 0 0, .slice none 0 0, .int .u64 0, .int .i64 0, .int .u64 0, .int .i64 0, .int .i64 0, .int .i64 0, .int .u32 0, .slice none 0 0, .int .u64 0, .int .u64 0, .int .i64 0, .string ⟨#[]⟩, .int .i64 0, .slice none 0 0]
theorem part_pre (m : MG) (w : World) : ∃ b0 w0 w1 w2, w.heap.size = b0 ∧ w.alloc (.cells (mgCs m) 38) = w0 ∧ w0.alloc (.cells #[.int .i64 0, .int .i64 0, .int .i64 0, .int .u64 0, .int .u64 0, .int .u64 0, .int .u64 0, .int .u64 0, .bool false, .bool false, .slice none 0 0, .slice none 0 0, .slice none 0 0, .int .u64 0, .int .i64 0, .int .u64 0, .int .i64 0, .int .i64 0, .int .i64 0, .int .u32 0, .slice none 0 0, .int .u64 0, .int .u64 0, .int .i64 0, .string ⟨#[]⟩, .int .i64 0, .slice none 0 0] 38) = w1 ∧ w1.alloc (.cells #[.int .i64 0, .int .i64 0, .int .i64 0, .int .u64 0, .int .u64 0, .int .u64 0, .int .u64 0, .int .u64 0, .bool false, .bool false, .slice none 0 0, .slice none 0 0, .slice none 0 0, .int .u64 0, .int .i64 0, .int .u64 0, .int .i64 0, .int .i64 0, .int .i64 0, .int .u32 0, .slice none 0 0, .int .u64 0, .int .u64 0, .int .i64 0, .string ⟨#[]⟩, .int .i64 0, .slice none 0 0] 38) = w2 ∧ w0.heap.size = b0 + 1 ∧ w1.heap.size = b0 + 2 ∧ Hid (Blk w2 b0 38 (mgCs m)) ∧ Hid (Blk w2 (b0 + 1) 38 #[.int .i64 0, .int .i64 0, .int .i64 0, .int .u64 0, .int .u64 0, .int .u64 0, .int .u64 0, .int .u64 0, .bool false, .bool false, .slice none 0 0, .slice none 0 0, .slice none 0 0, .int .u64 0, .int .i64 0, .int .u64 0, .int .i64 0, .int .i64 0, .int .i64 0, .int .u32 0, .slice none 0 0, .int .u64 0, .int .u64 0, .int .i64 0, .string ⟨#[]⟩, .int .i64 0, .slice none 0 0]) ∧ Hid (Blk w2 (b0 + 2) 38 #[.int .i64 0, .int .i64 0, .int .i64 0, .int .u64 0, .int .u64 0, .int .u64 0, .int .u64 0, .int .u64 0, .bool false, .bool false, .slice none 0 0, .slice none 0 0, .slice none 0 0, .int .u64 0, .int .i64 0, .int .u64 0, .int .i64 0, .int .i64 0, .int .i64 0, .int .u32 0, .slice none 0 0, .int .u64 0, .int .u64 0, .int .i64 0, .string ⟨#[]⟩, .int .i64 0, .slice none 0 0]) ∧ Hid (Below b0 w w2) ∧ Hid (Blk w1 b0 38 (mgCs m)) := by
  have X0 := Blk.new w 38 (mgCs m)
  have hb0 : Below w.heap.size w (w.alloc (.cells (mgCs m) 38)) := (Below.refl _ _).alloc (Nat.le_refl _) _
  obtain ⟨w0, ew0⟩ : ∃ w0, w.alloc (.cells (mgCs m) 38) = w0 := ⟨_, rfl⟩
  have hs0 : w0.heap.size = w.heap.size + 1 := by rw [← ew0]; simp
  rw [ew0] at X0 hb0
  have R1 := Blk.new w0 38 #[.int .i64 0, .int .i64 0, .int .i64 0, .int .u64 0, .int .u64 0, .int .u64 0, .int .u64 0, .int .u64 0, .bool false, .bool false, .slice none 0 0, .slice none 0 0, .slice none 0 0, .int .u64 0, .int .i64 0, .int .u64 0, .int .i64 0, .int .i64 0, .int .i64 0, .int .u32 0, .slice none 0 0, .int .u64 0, .int .u64 0, .int .i64 0, .string ⟨#[]⟩, .int .i64 0, .slice none 0 0]
  have hb1 : Below w0.heap.size w0 (w0.alloc (.cells #[.int .i64 0, .int .i64 0, .int .i64 0, .int .u64 0, .int .u64 0, .int .u64 0, .int .u64 0, .int .u64 0, .bool false, .bool false, .slice none 0 0, .slice none 0 0, .slice none 0 0, .int .u64 0, .int .i64 0, .int .u64 0, .int .i64 0, .int .i64 0, .int .i64 0, .int .u32 0, .slice none 0 0, .int .u64 0, .int .u64 0, .int .i64 0, .string ⟨#[]⟩, .int .i64 0, .slice none 0 0] 38)) := (Below.refl _ _).alloc (Nat.le_refl _) _
  obtain ⟨w1, ew1⟩ : ∃ w1, w0.alloc (.cells #[.int .i64 0, .int .i64 0, .int .i64 0, .int .u64 0, .int .u64 0, .int .u64 0, .int .u64 0, .int .u64 0, .bool false, .bool false, .slice none 0 0, .slice none 0 0, .slice none 0 0, .int .u64 0, .int .i64 0, .int .u64 0, .int .i64 0, .int .i64 0, .int .i64 0, .int .u32 0, .slice none 0 0, .int .u64 0, .int .u64 0, .int .i64 0, .string ⟨#[]⟩, .int .i64 0, .slice none 0 0] 38) = w1 := ⟨_, rfl⟩
  have hs1 : w1.heap.size = w.heap.size + 2 := by rw [← ew1]; simp [hs0]
  rw [ew1] at R1 hb1
  have X1 := X0.below hb1 X0.lt
  have Y2 := Blk.new w1 38 #[.int .i64 0, .int .i64 0, .int .i64 0, .int .u64 0, .int .u64 0, .int .u64 0, .int .u64 0, .int .u64 0, .bool false, .bool false, .slice none 0 0, .slice none 0 0, .slice none 0 0, .int .u64 0, .int .i64 0, .int .u64 0, .int .i64 0, .int .i64 0, .int .i64 0, .int .u32 0, .slice none 0 0, .int .u64 0, .int .u64 0, .int .i64 0, .string ⟨#[]⟩, .int .i64 0, .slice none 0 0]
  have hb2 : Below w1.heap.size w1 (w1.alloc (.cells #[.int .i64 0, .int .i64 0, .int .i64 0, .int .u64 0, .int .u64 0, .int .u64 0, .int .u64 0, .int .u64 0, .bool false, .bool false, .slice none 0 0, .slice none 0 0, .slice none 0 0, .int .u64 0, .int .i64 0, .int .u64 0, .int .i64 0, .int .i64 0, .int .i64 0, .int .u32 0, .slice none 0 0, .int .u64 0, .int .u64 0, .int .i64 0, .string ⟨#[]⟩, .int .i64 0, .slice none 0 0] 38)) := (Below.refl _ _).alloc (Nat.le_refl _) _
  obtain ⟨w2, ew2⟩ : ∃ w2, w1.alloc (.cells #[.int .i64 0, .int .i64 0, .int .i64 0, .int .u64 0, .int .u64 0, .int .u64 0, .int .u64 0, .int .u64 0, .bool false, .bool false, .slice none 0 0, .slice none 0 0, .slice none 0 0, .int .u64 0, .int .i64 0, .int .u64 0, .int .i64 0, .int .i64 0, .int .i64 0, .int .u32 0, .slice none 0 0, .int .u64 0, .int .u64 0, .int .i64 0, .string ⟨#[]⟩, .int .i64 0, .slice none 0 0] 38) = w2 := ⟨_, rfl⟩
  rw [ew2] at Y2 hb2
  have X2 := X1.below hb2 X1.lt
  have R2 := R1.below hb2 R1.lt
  have B2 := hb0.trans ((hb1.trans (hb2.mono hb1.size)).mono hb0.size)
  rw [hs0] at R2
  rw [hs1] at Y2
  exact ⟨_, w0, w1, w2, rfl, ew0, ew1, ew2, hs0, hs1, Lh X2, Lh R2, Lh Y2, Lh B2, Lh X1⟩
end Go.Proofs.YtlnneacgllhdhaaGreatDoor
end
section
namespace Go.Proofs.YtlnneacgllhdhaaGreatDoor
open Go.RowKit OctMath
set_option linter.unusedVariables false
set_option linter.unusedSimpArgs false
set_option maxRecDepth 100000 in
set_option maxHeartbeats 16000000 in
theorem part_4 (m : MG) (w : World) (hk : m.x.kind = 18 ∨ m.x.kind = 19) : Calls Tryz.prog 34 #[.agg (mgCs m)] w (RetPart (pM 4 m) true w) := by
  rcases hk with hk | hk
  all_goals
    have HK := Lh hk
    obtain ⟨b0, w0, w1, w2, eb0, ew0, ew1, ew2, hs0, hs1, HX, HR, HY, HB, HX1⟩ := part_pre m w
    have HE := Lh eb0
    have c0 : w1.cell? ⟨b0, 0, none⟩ = some (.int .i64 m.x.kind) := HX1.out.cell 0
    have c1 : w1.cell? ⟨b0, 1, none⟩ = some (.int .i64 m.x.from_) := HX1.out.cell 1
    have c2 : w1.cell? ⟨b0, 2, none⟩ = some (.int .i64 m.x.to_) := HX1.out.cell 2
    rw [hk] at c0
    clear hk
    go_enter Tryz.func34, Tryz.ntmps34
    go_upto_region 35 with (first
        | rw [ew0]
        | rw [ew1]
        | rw [ew2]
        | rw [eb0]
        | rw [hs0]
        | rw [hs1]
        | (refine wpl_store_blk rfl 38 (.tmp 4) (.tmp 11) rfl (b0 + 2) 38 _ (partZ m.x.kind m) rfl (by rw [HK.out]; rfl) HY.out rfl sizeMs6 rfl ?_
           intro w3 hY3 hO3
           have HY3 := hY3
           have HX3 := Lh (hO3.out.blk HX.out (by omega))
           have HR3 := Lh (hO3.out.blk HR.out (by omega))
           have HB3 := Lh (HB.out.trans (hO3.out.below (by omega)))
           have d0 : w3.cell? ⟨b0, 0, none⟩ = some (.int .i64 m.x.kind) := HX3.out.cell 0
           rw [HK.out] at d0
           clear c0 c1 c2 hY3 hO3))
    clear ew0 ew1 ew2 hs0 hs1 eb0 d0
    have HYd := HY3
    have HRd := HR3
    have HBd := HB3
    clear HY3 HR3 HB3
    have c7 : w3.cell? ⟨b0, 7, none⟩ = some (.int .u64 (m.x.ctx : Int)) := HX3.out.cell 7
    have q1 : w3.cell? ⟨b0 + 2, 7, none⟩ = some (.int .u64 0) := (HYd.out.cell 7).trans (by (repeat (first | rw [setL_lt _ _ _ _ (by decide)] | rw [setL_ge _ _ _ _ (Nat.le_of_ble_eq_true rfl)] | rw [Array.getElem?_setIfInBounds_ne (by decide)])); rfl)
    have q2 := HYd.out.frozen 7
    have hB' := HYd.out.set_ 7 (.int .u64 (m.x.ctx : Int))
    have hO' := Only.set_ w3 (b0 + 2) 7 (.int .u64 (m.x.ctx : Int))
    obtain ⟨v1, ev⟩ : ∃ v, w3.setCell ⟨b0 + 2, 7, none⟩ (.int .u64 (m.x.ctx : Int)) = v := ⟨_, rfl⟩
    rw [ev] at hB' hO'
    go_upto_region 36 with (rw [ev])
    clear ev q1 q2 c7
    have HYd := Lh hB'
    have HRd := Lh (hO'.blk HRd.out (by omega))
    have HBd := Lh (HBd.out.trans (hO'.below (by omega)))
    clear hB' hO'
    have hfin : ((partZ m.x.kind m).setIfInBounds 7 (.int .u64 (m.x.ctx : Int))) = mgCs (pM 4 m) := by (simp only [mgCs, mgA, pM, partZ, setL, List.setIfInBounds_toArray, List.set_cons_zero, List.set_cons_succ]) <;> rfl
    have HF : Hid (Blk _ (b0 + 2) 38 (mgCs (pM 4 m))) := Lh (by have h := HYd.out; rw [hfin] at h; exact h)
    clear hfin
    go_wp2_with (first
      | (refine wpl_load_blk rfl 38 (.tmp 4) rfl (b0 + 2) 38 (mgCs (pM 4 m)) _ rfl HF.out Tryz.underlying38 rfl sizeMs6 ?_)
      | (refine wpl_store_blk rfl 38 (.tmp 2) (.tmp 173) rfl (b0 + 1) 38 _ (mgCs (pM 4 m)) rfl rfl HRd.out rfl sizeMs6 rfl ?_
         intro z9 hB9 hO9))
    exact bodyPost_ret (v := .tuple #[.agg (mgCs (pM 4 m)), .bool true]) (res_ct Tryz.results34 rfl rfl (load_blk hB9.out Tryz.underlying38 rfl sizeMs6)) rfl ⟨rfl, by rw [HE.out]; exact HBd.out.trans (hO9.out.below (by omega))⟩
set_option maxRecDepth 100000 in
set_option maxHeartbeats 16000000 in
theorem part_5 (m : MG) (w : World) (hk : m.x.kind = 5) : Calls Tryz.prog 34 #[.agg (mgCs m)] w (RetPart (pM 5 m) true w) := by
  rcases hk with hk
  all_goals
    have HK := Lh hk
    obtain ⟨b0, w0, w1, w2, eb0, ew0, ew1, ew2, hs0, hs1, HX, HR, HY, HB, HX1⟩ := part_pre m w
    have HE := Lh eb0
    have c0 : w1.cell? ⟨b0, 0, none⟩ = some (.int .i64 m.x.kind) := HX1.out.cell 0
    have c1 : w1.cell? ⟨b0, 1, none⟩ = some (.int .i64 m.x.from_) := HX1.out.cell 1
    have c2 : w1.cell? ⟨b0, 2, none⟩ = some (.int .i64 m.x.to_) := HX1.out.cell 2
    rw [hk] at c0
    clear hk
    go_enter Tryz.func34, Tryz.ntmps34
    go_upto_region 11 with (first
        | rw [ew0]
        | rw [ew1]
        | rw [ew2]
        | rw [eb0]
        | rw [hs0]
        | rw [hs1]
        | (refine wpl_store_blk rfl 38 (.tmp 4) (.tmp 11) rfl (b0 + 2) 38 _ (partZ m.x.kind m) rfl (by rw [HK.out]; rfl) HY.out rfl sizeMs6 rfl ?_
           intro w3 hY3 hO3
           have HY3 := hY3
           have HX3 := Lh (hO3.out.blk HX.out (by omega))
           have HR3 := Lh (hO3.out.blk HR.out (by omega))
           have HB3 := Lh (HB.out.trans (hO3.out.below (by omega)))
           have d0 : w3.cell? ⟨b0, 0, none⟩ = some (.int .i64 m.x.kind) := HX3.out.cell 0
           rw [HK.out] at d0
           clear c0 c1 c2 hY3 hO3))
    clear ew0 ew1 ew2 hs0 hs1 eb0 d0
    refine wp_region_late (S0 := fun _ => True) (S := fun w' => Blk w' b0 38 (mgCs m)) 23 24 (by kernel_rfl) rfl ⟨trivial, HX3.out.drew⟩ (fun wd hwd hH => ?_)
    have HYd : Hid (Blk wd (b0 + 2) 38 (partZ m.x.kind m)) := Lh (by rw [hwd]; exact HY3.out.drew)
    have HRd : Hid (Blk wd (b0 + 1) 38 _) := Lh (by rw [hwd]; exact HR3.out.drew)
    have HBd := Lh (show Below b0 w wd from by rw [hwd]; exact HB3.out.drew)
    clear hwd
    refine wpAnyT_take 0 (v := ?_) rfl (by kernel_rfl) (fun _ _ _ h => h) (Or.inl ⟨by rfl, ?_⟩) hH ?_
    rotate_left
    · (intro wx hx; clear hx; go_simp <;> with_reducible rfl)
    try simp only [Act.put, pA9, pZ9, pS9]
    refine wpAnyT_take 1 (v := ?_) rfl (by kernel_rfl) (fun _ _ _ h => h) (Or.inl ⟨by rfl, ?_⟩) hH ?_
    rotate_left
    · (intro wx hx; have c3 : wx.cell? ⟨b0, 3, none⟩ = some (.int .u64 (m.x.term : Int)) := hx.cell 3; clear hx; go_simp <;> with_reducible rfl)
    try simp only [Act.put, pA9, pZ9, pS9]
    refine wpAnyT_take 2 (v := ?_) rfl (by kernel_rfl) (fun _ _ _ h => h) (Or.inl ⟨by rfl, ?_⟩) hH ?_
    rotate_left
    · (intro wx hx; clear hx; go_simp <;> with_reducible rfl)
    try simp only [Act.put, pA9, pZ9, pS9]
    refine wpAnyT_take 3 (v := ?_) rfl (by kernel_rfl) (fun _ _ _ h => h) (Or.inl ⟨by rfl, ?_⟩) hH ?_
    rotate_left
    · (intro wx hx; have c4 : wx.cell? ⟨b0, 4, none⟩ = some (.int .u64 (m.x.index : Int)) := hx.cell 4; clear hx; go_simp <;> with_reducible rfl)
    try simp only [Act.put, pA9, pZ9, pS9]
    refine wpAnyT_take 4 (v := ?_) rfl (by kernel_rfl) (fun _ _ _ h => h) (Or.inl ⟨by rfl, ?_⟩) hH ?_
    rotate_left
    · (intro wx hx; clear hx; go_simp <;> with_reducible rfl)
    try simp only [Act.put, pA9, pZ9, pS9]
    refine wpAnyT_take 5 (v := ?_) rfl (by kernel_rfl) (fun _ _ _ h => h) (Or.inl ⟨by rfl, ?_⟩) hH ?_
    rotate_left
    · (intro wx hx; have c5 : wx.cell? ⟨b0, 5, none⟩ = some (.int .u64 (m.x.logTerm : Int)) := hx.cell 5; clear hx; go_simp <;> with_reducible rfl)
    try simp only [Act.put, pA9, pZ9, pS9]
    refine wpAnyT_take 6 (v := ?_) rfl (by kernel_rfl) (fun _ _ _ h => h) (Or.inl ⟨by rfl, ?_⟩) hH ?_
    rotate_left
    · (intro wx hx; clear hx; go_simp <;> with_reducible rfl)
    try simp only [Act.put, pA9, pZ9, pS9]
    refine wpAnyT_take 7 (v := ?_) rfl (by kernel_rfl) (fun _ _ _ h => h) (Or.inl ⟨by rfl, ?_⟩) hH ?_
    rotate_left
    · (intro wx hx; have c6 : wx.cell? ⟨b0, 6, none⟩ = some (.int .u64 (m.x.commit : Int)) := hx.cell 6; clear hx; go_simp <;> with_reducible rfl)
    try simp only [Act.put, pA9, pZ9, pS9]
    refine wpAnyT_take 8 (v := ?_) rfl (by kernel_rfl) (fun _ _ _ h => h) (Or.inl ⟨by rfl, ?_⟩) hH ?_
    rotate_left
    · (intro wx hx; clear hx; go_simp <;> with_reducible rfl)
    try simp only [Act.put, pA9, pZ9, pS9]
    refine wpAnyT_take 9 (v := ?_) rfl (by kernel_rfl) (fun _ _ _ h => h) (Or.inl ⟨by rfl, ?_⟩) hH ?_
    rotate_left
    · (intro wx hx; have c7 : wx.cell? ⟨b0, 7, none⟩ = some (.int .u64 (m.x.ctx : Int)) := hx.cell 7; clear hx; go_simp <;> with_reducible rfl)
    try simp only [Act.put, pA9, pZ9, pS9]
    refine wpAnyT_take 10 (v := ?_) rfl (by kernel_rfl) (fun _ _ _ h => h) (Or.inl ⟨by rfl, ?_⟩) hH ?_
    rotate_left
    · (intro wx hx; clear hx; go_simp <;> with_reducible rfl)
    try simp only [Act.put, pA9, pZ9, pS9]
    refine wpAnyT_take 11 (v := ?_) rfl (by kernel_rfl) (fun _ _ _ h => h) (Or.inl ⟨by rfl, ?_⟩) hH ?_
    rotate_left
    · (intro wx hx; have c10 : wx.cell? ⟨b0, 10, none⟩ = some (.slice m.Ae m.es.length m.ce) := hx.cell 10; clear hx; go_simp <;> with_reducible rfl)
    try simp only [Act.put, pA9, pZ9, pS9]
    refine wpAnyT_stay 12 (v := ?_) rfl (by kernel_rfl) (fun _ _ _ h => h) (Or.inl ⟨by rfl, ?_⟩) ⟨hH.1, fun _ => hH.2⟩ ?_
    rotate_left
    · (intro wx hx; clear hx; go_simp <;> with_reducible rfl)
    try simp only [Act.put, pA9, pZ9, pS9]
    refine wpAnyT_one 13 rfl (by kernel_rfl) (fun K hQ => ?_)
    have q1 : wd.cell? ⟨b0 + 2, 3, none⟩ = some (.int .u64 0) := (HYd.out.cell 3).trans (by (repeat (first | rw [setL_lt _ _ _ _ (by decide)] | rw [setL_ge _ _ _ _ (Nat.le_of_ble_eq_true rfl)] | rw [Array.getElem?_setIfInBounds_ne (by decide)])); rfl)
    have q2 := HYd.out.frozen 3
    go_simp
    have hB' := HYd.out.set_ 3 (.int .u64 (m.x.term : Int))
    have hO' := Only.set_ wd (b0 + 2) 3 (.int .u64 (m.x.term : Int))
    obtain ⟨v1, ev⟩ : ∃ v, wd.setCell ⟨b0 + 2, 3, none⟩ (.int .u64 (m.x.term : Int)) = v := ⟨_, rfl⟩
    rw [ev] at hB' hO' ⊢
    clear ev q1 q2
    have HYd := Lh hB'
    have HRd := Lh (hO'.blk HRd.out (by omega))
    have HBd := Lh (HBd.out.trans (hO'.below (by omega)))
    refine hQ.out _ _ (⟨trivial, hO'.blk hH.2 (by omega)⟩) (fun hH2 => ?_)
    clear hQ K hB' hO' hH
    have hH := hH2
    clear hH2
    try simp only [Act.put, pA9, pZ9, pS9]
    refine wpAnyT_stay 14 (v := ?_) rfl (by kernel_rfl) (fun _ _ _ h => h) (Or.inl ⟨by rfl, ?_⟩) ⟨hH.1, fun _ => hH.2⟩ ?_
    rotate_left
    · (intro wx hx; clear hx; go_simp <;> with_reducible rfl)
    try simp only [Act.put, pA9, pZ9, pS9]
    refine wpAnyT_one 15 rfl (by kernel_rfl) (fun K hQ => ?_)
    have q1 : v1.cell? ⟨b0 + 2, 4, none⟩ = some (.int .u64 0) := (HYd.out.cell 4).trans (by (repeat (first | rw [setL_lt _ _ _ _ (by decide)] | rw [setL_ge _ _ _ _ (Nat.le_of_ble_eq_true rfl)] | rw [Array.getElem?_setIfInBounds_ne (by decide)])); rfl)
    have q2 := HYd.out.frozen 4
    go_simp
    have hB' := HYd.out.set_ 4 (.int .u64 (m.x.index : Int))
    have hO' := Only.set_ v1 (b0 + 2) 4 (.int .u64 (m.x.index : Int))
    obtain ⟨v2, ev⟩ : ∃ v, v1.setCell ⟨b0 + 2, 4, none⟩ (.int .u64 (m.x.index : Int)) = v := ⟨_, rfl⟩
    rw [ev] at hB' hO' ⊢
    clear ev q1 q2
    have HYd := Lh hB'
    have HRd := Lh (hO'.blk HRd.out (by omega))
    have HBd := Lh (HBd.out.trans (hO'.below (by omega)))
    refine hQ.out _ _ (⟨trivial, hO'.blk hH.2 (by omega)⟩) (fun hH2 => ?_)
    clear hQ K hB' hO' hH
    have hH := hH2
    clear hH2
    try simp only [Act.put, pA9, pZ9, pS9]
    refine wpAnyT_stay 16 (v := ?_) rfl (by kernel_rfl) (fun _ _ _ h => h) (Or.inl ⟨by rfl, ?_⟩) ⟨hH.1, fun _ => hH.2⟩ ?_
    rotate_left
    · (intro wx hx; clear hx; go_simp <;> with_reducible rfl)
    try simp only [Act.put, pA9, pZ9, pS9]
    refine wpAnyT_one 17 rfl (by kernel_rfl) (fun K hQ => ?_)
    have q1 : v2.cell? ⟨b0 + 2, 5, none⟩ = some (.int .u64 0) := (HYd.out.cell 5).trans (by (repeat (first | rw [setL_lt _ _ _ _ (by decide)] | rw [setL_ge _ _ _ _ (Nat.le_of_ble_eq_true rfl)] | rw [Array.getElem?_setIfInBounds_ne (by decide)])); rfl)
    have q2 := HYd.out.frozen 5
    go_simp
    have hB' := HYd.out.set_ 5 (.int .u64 (m.x.logTerm : Int))
    have hO' := Only.set_ v2 (b0 + 2) 5 (.int .u64 (m.x.logTerm : Int))
    obtain ⟨v3, ev⟩ : ∃ v, v2.setCell ⟨b0 + 2, 5, none⟩ (.int .u64 (m.x.logTerm : Int)) = v := ⟨_, rfl⟩
    rw [ev] at hB' hO' ⊢
    clear ev q1 q2
    have HYd := Lh hB'
    have HRd := Lh (hO'.blk HRd.out (by omega))
    have HBd := Lh (HBd.out.trans (hO'.below (by omega)))
    refine hQ.out _ _ (⟨trivial, hO'.blk hH.2 (by omega)⟩) (fun hH2 => ?_)
    clear hQ K hB' hO' hH
    have hH := hH2
    clear hH2
    try simp only [Act.put, pA9, pZ9, pS9]
    refine wpAnyT_stay 18 (v := ?_) rfl (by kernel_rfl) (fun _ _ _ h => h) (Or.inl ⟨by rfl, ?_⟩) ⟨hH.1, fun _ => hH.2⟩ ?_
    rotate_left
    · (intro wx hx; clear hx; go_simp <;> with_reducible rfl)
    try simp only [Act.put, pA9, pZ9, pS9]
    refine wpAnyT_one 19 rfl (by kernel_rfl) (fun K hQ => ?_)
    have q1 : v3.cell? ⟨b0 + 2, 6, none⟩ = some (.int .u64 0) := (HYd.out.cell 6).trans (by (repeat (first | rw [setL_lt _ _ _ _ (by decide)] | rw [setL_ge _ _ _ _ (Nat.le_of_ble_eq_true rfl)] | rw [Array.getElem?_setIfInBounds_ne (by decide)])); rfl)
    have q2 := HYd.out.frozen 6
    go_simp
    have hB' := HYd.out.set_ 6 (.int .u64 (m.x.commit : Int))
    have hO' := Only.set_ v3 (b0 + 2) 6 (.int .u64 (m.x.commit : Int))
    obtain ⟨v4, ev⟩ : ∃ v, v3.setCell ⟨b0 + 2, 6, none⟩ (.int .u64 (m.x.commit : Int)) = v := ⟨_, rfl⟩
    rw [ev] at hB' hO' ⊢
    clear ev q1 q2
    have HYd := Lh hB'
    have HRd := Lh (hO'.blk HRd.out (by omega))
    have HBd := Lh (HBd.out.trans (hO'.below (by omega)))
    refine hQ.out _ _ (⟨trivial, hO'.blk hH.2 (by omega)⟩) (fun hH2 => ?_)
    clear hQ K hB' hO' hH
    have hH := hH2
    clear hH2
    try simp only [Act.put, pA9, pZ9, pS9]
    refine wpAnyT_stay 20 (v := ?_) rfl (by kernel_rfl) (fun _ _ _ h => h) (Or.inl ⟨by rfl, ?_⟩) ⟨hH.1, fun _ => hH.2⟩ ?_
    rotate_left
    · (intro wx hx; clear hx; go_simp <;> with_reducible rfl)
    try simp only [Act.put, pA9, pZ9, pS9]
    refine wpAnyT_one 21 rfl (by kernel_rfl) (fun K hQ => ?_)
    have q1 : v4.cell? ⟨b0 + 2, 7, none⟩ = some (.int .u64 0) := (HYd.out.cell 7).trans (by (repeat (first | rw [setL_lt _ _ _ _ (by decide)] | rw [setL_ge _ _ _ _ (Nat.le_of_ble_eq_true rfl)] | rw [Array.getElem?_setIfInBounds_ne (by decide)])); rfl)
    have q2 := HYd.out.frozen 7
    go_simp
    have hB' := HYd.out.set_ 7 (.int .u64 (m.x.ctx : Int))
    have hO' := Only.set_ v4 (b0 + 2) 7 (.int .u64 (m.x.ctx : Int))
    obtain ⟨v5, ev⟩ : ∃ v, v4.setCell ⟨b0 + 2, 7, none⟩ (.int .u64 (m.x.ctx : Int)) = v := ⟨_, rfl⟩
    rw [ev] at hB' hO' ⊢
    clear ev q1 q2
    have HYd := Lh hB'
    have HRd := Lh (hO'.blk HRd.out (by omega))
    have HBd := Lh (HBd.out.trans (hO'.below (by omega)))
    refine hQ.out _ _ (⟨trivial, hO'.blk hH.2 (by omega)⟩) (fun hH2 => ?_)
    clear hQ K hB' hO' hH
    have hH := hH2
    clear hH2
    try simp only [Act.put, pA9, pZ9, pS9]
    refine wpAnyT_stay 22 (v := ?_) rfl (by kernel_rfl) (fun _ _ _ h => h) (Or.inl ⟨by rfl, ?_⟩) ⟨hH.1, fun _ => hH.2⟩ ?_
    rotate_left
    · (intro wx hx; clear hx; go_simp <;> with_reducible rfl)
    try simp only [Act.put, pA9, pZ9, pS9]
    refine wpAnyT_last 23 rfl (by kernel_rfl) (by decide) (fun K hQ => ?_)
    have q1 : v5.cell? ⟨b0 + 2, 10, none⟩ = some (.slice none 0 0) := (HYd.out.cell 10).trans (by (repeat (first | rw [setL_lt _ _ _ _ (by decide)] | rw [setL_ge _ _ _ _ (Nat.le_of_ble_eq_true rfl)] | rw [Array.getElem?_setIfInBounds_ne (by decide)])); rfl)
    have q2 := HYd.out.frozen 10
    go_simp
    have hB' := HYd.out.set_ 10 (.slice m.Ae m.es.length m.ce)
    have hO' := Only.set_ v5 (b0 + 2) 10 (.slice m.Ae m.es.length m.ce)
    obtain ⟨v6, ev⟩ : ∃ v, v5.setCell ⟨b0 + 2, 10, none⟩ (.slice m.Ae m.es.length m.ce) = v := ⟨_, rfl⟩
    rw [ev] at hB' hO' ⊢
    clear ev q1 q2
    have HYd := Lh hB'
    have HRd := Lh (hO'.blk HRd.out (by omega))
    have HBd := Lh (HBd.out.trans (hO'.below (by omega)))
    refine hQ.out _ _ (trivial) (fun hH2 => ?_)
    clear hQ K hB' hO' hH
    have hH := hH2
    clear hH2
    try simp only [Act.put, pA9, pZ9, pS9]
    refine wpAnyT_done (by kernel_rfl) ?_ _
    clear hH
    have hfin : (((((((partZ m.x.kind m).setIfInBounds 3 (.int .u64 (m.x.term : Int))).setIfInBounds 4 (.int .u64 (m.x.index : Int))).setIfInBounds 5 (.int .u64 (m.x.logTerm : Int))).setIfInBounds 6 (.int .u64 (m.x.commit : Int))).setIfInBounds 7 (.int .u64 (m.x.ctx : Int))).setIfInBounds 10 (.slice m.Ae m.es.length m.ce)) = mgCs (pM 5 m) := by (simp only [mgCs, mgA, pM, partZ, setL, List.setIfInBounds_toArray, List.set_cons_zero, List.set_cons_succ]) <;> rfl
    have HF : Hid (Blk _ (b0 + 2) 38 (mgCs (pM 5 m))) := Lh (by have h := HYd.out; rw [hfin] at h; exact h)
    clear hfin
    go_wp2_with (first
      | (refine wpl_load_blk rfl 38 (.tmp 4) rfl (b0 + 2) 38 (mgCs (pM 5 m)) _ rfl HF.out Tryz.underlying38 rfl sizeMs6 ?_)
      | (refine wpl_store_blk rfl 38 (.tmp 2) (.tmp 173) rfl (b0 + 1) 38 _ (mgCs (pM 5 m)) rfl rfl HRd.out rfl sizeMs6 rfl ?_
         intro z9 hB9 hO9))
    exact bodyPost_ret (v := .tuple #[.agg (mgCs (pM 5 m)), .bool true]) (res_ct Tryz.results34 rfl rfl (load_blk hB9.out Tryz.underlying38 rfl sizeMs6)) rfl ⟨rfl, by rw [HE.out]; exact HBd.out.trans (hO9.out.below (by omega))⟩
set_option maxRecDepth 100000 in
set_option maxHeartbeats 16000000 in
theorem part_6 (m : MG) (w : World) (hk : m.x.kind = 6) : Calls Tryz.prog 34 #[.agg (mgCs m)] w (RetPart (pM 6 m) true w) := by
  rcases hk with hk
  all_goals
    have HK := Lh hk
    obtain ⟨b0, w0, w1, w2, eb0, ew0, ew1, ew2, hs0, hs1, HX, HR, HY, HB, HX1⟩ := part_pre m w
    have HE := Lh eb0
    have c0 : w1.cell? ⟨b0, 0, none⟩ = some (.int .i64 m.x.kind) := HX1.out.cell 0
    have c1 : w1.cell? ⟨b0, 1, none⟩ = some (.int .i64 m.x.from_) := HX1.out.cell 1
    have c2 : w1.cell? ⟨b0, 2, none⟩ = some (.int .i64 m.x.to_) := HX1.out.cell 2
    rw [hk] at c0
    clear hk
    go_enter Tryz.func34, Tryz.ntmps34
    go_upto_region 13 with (first
        | rw [ew0]
        | rw [ew1]
        | rw [ew2]
        | rw [eb0]
        | rw [hs0]
        | rw [hs1]
        | (refine wpl_store_blk rfl 38 (.tmp 4) (.tmp 11) rfl (b0 + 2) 38 _ (partZ m.x.kind m) rfl (by rw [HK.out]; rfl) HY.out rfl sizeMs6 rfl ?_
           intro w3 hY3 hO3
           have HY3 := hY3
           have HX3 := Lh (hO3.out.blk HX.out (by omega))
           have HR3 := Lh (hO3.out.blk HR.out (by omega))
           have HB3 := Lh (HB.out.trans (hO3.out.below (by omega)))
           have d0 : w3.cell? ⟨b0, 0, none⟩ = some (.int .i64 m.x.kind) := HX3.out.cell 0
           rw [HK.out] at d0
           clear c0 c1 c2 hY3 hO3))
    clear ew0 ew1 ew2 hs0 hs1 eb0 d0
    refine wp_region_late (S0 := fun _ => True) (S := fun w' => Blk w' b0 38 (mgCs m)) 15 16 (by kernel_rfl) rfl ⟨trivial, HX3.out.drew⟩ (fun wd hwd hH => ?_)
    have HYd : Hid (Blk wd (b0 + 2) 38 (partZ m.x.kind m)) := Lh (by rw [hwd]; exact HY3.out.drew)
    have HRd : Hid (Blk wd (b0 + 1) 38 _) := Lh (by rw [hwd]; exact HR3.out.drew)
    have HBd := Lh (show Below b0 w wd from by rw [hwd]; exact HB3.out.drew)
    clear hwd
    refine wpAnyT_take 0 (v := ?_) rfl (by kernel_rfl) (fun _ _ _ h => h) (Or.inl ⟨by rfl, ?_⟩) hH ?_
    rotate_left
    · (intro wx hx; clear hx; go_simp <;> with_reducible rfl)
    try simp only [Act.put, pA9, pZ9, pS9]
    refine wpAnyT_take 1 (v := ?_) rfl (by kernel_rfl) (fun _ _ _ h => h) (Or.inl ⟨by rfl, ?_⟩) hH ?_
    rotate_left
    · (intro wx hx; have c3 : wx.cell? ⟨b0, 3, none⟩ = some (.int .u64 (m.x.term : Int)) := hx.cell 3; clear hx; go_simp <;> with_reducible rfl)
    try simp only [Act.put, pA9, pZ9, pS9]
    refine wpAnyT_take 2 (v := ?_) rfl (by kernel_rfl) (fun _ _ _ h => h) (Or.inl ⟨by rfl, ?_⟩) hH ?_
    rotate_left
    · (intro wx hx; clear hx; go_simp <;> with_reducible rfl)
    try simp only [Act.put, pA9, pZ9, pS9]
    refine wpAnyT_take 3 (v := ?_) rfl (by kernel_rfl) (fun _ _ _ h => h) (Or.inl ⟨by rfl, ?_⟩) hH ?_
    rotate_left
    · (intro wx hx; have c4 : wx.cell? ⟨b0, 4, none⟩ = some (.int .u64 (m.x.index : Int)) := hx.cell 4; clear hx; go_simp <;> with_reducible rfl)
    try simp only [Act.put, pA9, pZ9, pS9]
    refine wpAnyT_take 4 (v := ?_) rfl (by kernel_rfl) (fun _ _ _ h => h) (Or.inl ⟨by rfl, ?_⟩) hH ?_
    rotate_left
    · (intro wx hx; clear hx; go_simp <;> with_reducible rfl)
    try simp only [Act.put, pA9, pZ9, pS9]
    refine wpAnyT_take 5 (v := ?_) rfl (by kernel_rfl) (fun _ _ _ h => h) (Or.inl ⟨by rfl, ?_⟩) hH ?_
    rotate_left
    · (intro wx hx; have c7 : wx.cell? ⟨b0, 7, none⟩ = some (.int .u64 (m.x.ctx : Int)) := hx.cell 7; clear hx; go_simp <;> with_reducible rfl)
    try simp only [Act.put, pA9, pZ9, pS9]
    refine wpAnyT_take 6 (v := ?_) rfl (by kernel_rfl) (fun _ _ _ h => h) (Or.inl ⟨by rfl, ?_⟩) hH ?_
    rotate_left
    · (intro wx hx; clear hx; go_simp <;> with_reducible rfl)
    try simp only [Act.put, pA9, pZ9, pS9]
    refine wpAnyT_take 7 (v := ?_) rfl (by kernel_rfl) (fun _ _ _ h => h) (Or.inl ⟨by rfl, ?_⟩) hH ?_
    rotate_left
    · (intro wx hx; have c8 : wx.cell? ⟨b0, 8, none⟩ = some (.bool m.x.okf) := hx.cell 8; clear hx; go_simp <;> with_reducible rfl)
    try simp only [Act.put, pA9, pZ9, pS9]
    refine wpAnyT_stay 8 (v := ?_) rfl (by kernel_rfl) (fun _ _ _ h => h) (Or.inl ⟨by rfl, ?_⟩) ⟨hH.1, fun _ => hH.2⟩ ?_
    rotate_left
    · (intro wx hx; clear hx; go_simp <;> with_reducible rfl)
    try simp only [Act.put, pA9, pZ9, pS9]
    refine wpAnyT_one 9 rfl (by kernel_rfl) (fun K hQ => ?_)
    have q1 : wd.cell? ⟨b0 + 2, 3, none⟩ = some (.int .u64 0) := (HYd.out.cell 3).trans (by (repeat (first | rw [setL_lt _ _ _ _ (by decide)] | rw [setL_ge _ _ _ _ (Nat.le_of_ble_eq_true rfl)] | rw [Array.getElem?_setIfInBounds_ne (by decide)])); rfl)
    have q2 := HYd.out.frozen 3
    go_simp
    have hB' := HYd.out.set_ 3 (.int .u64 (m.x.term : Int))
    have hO' := Only.set_ wd (b0 + 2) 3 (.int .u64 (m.x.term : Int))
    obtain ⟨v1, ev⟩ : ∃ v, wd.setCell ⟨b0 + 2, 3, none⟩ (.int .u64 (m.x.term : Int)) = v := ⟨_, rfl⟩
    rw [ev] at hB' hO' ⊢
    clear ev q1 q2
    have HYd := Lh hB'
    have HRd := Lh (hO'.blk HRd.out (by omega))
    have HBd := Lh (HBd.out.trans (hO'.below (by omega)))
    refine hQ.out _ _ (⟨trivial, hO'.blk hH.2 (by omega)⟩) (fun hH2 => ?_)
    clear hQ K hB' hO' hH
    have hH := hH2
    clear hH2
    try simp only [Act.put, pA9, pZ9, pS9]
    refine wpAnyT_stay 10 (v := ?_) rfl (by kernel_rfl) (fun _ _ _ h => h) (Or.inl ⟨by rfl, ?_⟩) ⟨hH.1, fun _ => hH.2⟩ ?_
    rotate_left
    · (intro wx hx; clear hx; go_simp <;> with_reducible rfl)
    try simp only [Act.put, pA9, pZ9, pS9]
    refine wpAnyT_one 11 rfl (by kernel_rfl) (fun K hQ => ?_)
    have q1 : v1.cell? ⟨b0 + 2, 4, none⟩ = some (.int .u64 0) := (HYd.out.cell 4).trans (by (repeat (first | rw [setL_lt _ _ _ _ (by decide)] | rw [setL_ge _ _ _ _ (Nat.le_of_ble_eq_true rfl)] | rw [Array.getElem?_setIfInBounds_ne (by decide)])); rfl)
    have q2 := HYd.out.frozen 4
    go_simp
    have hB' := HYd.out.set_ 4 (.int .u64 (m.x.index : Int))
    have hO' := Only.set_ v1 (b0 + 2) 4 (.int .u64 (m.x.index : Int))
    obtain ⟨v2, ev⟩ : ∃ v, v1.setCell ⟨b0 + 2, 4, none⟩ (.int .u64 (m.x.index : Int)) = v := ⟨_, rfl⟩
    rw [ev] at hB' hO' ⊢
    clear ev q1 q2
    have HYd := Lh hB'
    have HRd := Lh (hO'.blk HRd.out (by omega))
    have HBd := Lh (HBd.out.trans (hO'.below (by omega)))
    refine hQ.out _ _ (⟨trivial, hO'.blk hH.2 (by omega)⟩) (fun hH2 => ?_)
    clear hQ K hB' hO' hH
    have hH := hH2
    clear hH2
    try simp only [Act.put, pA9, pZ9, pS9]
    refine wpAnyT_stay 12 (v := ?_) rfl (by kernel_rfl) (fun _ _ _ h => h) (Or.inl ⟨by rfl, ?_⟩) ⟨hH.1, fun _ => hH.2⟩ ?_
    rotate_left
    · (intro wx hx; clear hx; go_simp <;> with_reducible rfl)
    try simp only [Act.put, pA9, pZ9, pS9]
    refine wpAnyT_one 13 rfl (by kernel_rfl) (fun K hQ => ?_)
    have q1 : v2.cell? ⟨b0 + 2, 7, none⟩ = some (.int .u64 0) := (HYd.out.cell 7).trans (by (repeat (first | rw [setL_lt _ _ _ _ (by decide)] | rw [setL_ge _ _ _ _ (Nat.le_of_ble_eq_true rfl)] | rw [Array.getElem?_setIfInBounds_ne (by decide)])); rfl)
    have q2 := HYd.out.frozen 7
    go_simp
    have hB' := HYd.out.set_ 7 (.int .u64 (m.x.ctx : Int))
    have hO' := Only.set_ v2 (b0 + 2) 7 (.int .u64 (m.x.ctx : Int))
    obtain ⟨v3, ev⟩ : ∃ v, v2.setCell ⟨b0 + 2, 7, none⟩ (.int .u64 (m.x.ctx : Int)) = v := ⟨_, rfl⟩
    rw [ev] at hB' hO' ⊢
    clear ev q1 q2
    have HYd := Lh hB'
    have HRd := Lh (hO'.blk HRd.out (by omega))
    have HBd := Lh (HBd.out.trans (hO'.below (by omega)))
    refine hQ.out _ _ (⟨trivial, hO'.blk hH.2 (by omega)⟩) (fun hH2 => ?_)
    clear hQ K hB' hO' hH
    have hH := hH2
    clear hH2
    try simp only [Act.put, pA9, pZ9, pS9]
    refine wpAnyT_stay 14 (v := ?_) rfl (by kernel_rfl) (fun _ _ _ h => h) (Or.inl ⟨by rfl, ?_⟩) ⟨hH.1, fun _ => hH.2⟩ ?_
    rotate_left
    · (intro wx hx; clear hx; go_simp <;> with_reducible rfl)
    try simp only [Act.put, pA9, pZ9, pS9]
    refine wpAnyT_last 15 rfl (by kernel_rfl) (by decide) (fun K hQ => ?_)
    have q1 : v3.cell? ⟨b0 + 2, 8, none⟩ = some (.bool false) := (HYd.out.cell 8).trans (by (repeat (first | rw [setL_lt _ _ _ _ (by decide)] | rw [setL_ge _ _ _ _ (Nat.le_of_ble_eq_true rfl)] | rw [Array.getElem?_setIfInBounds_ne (by decide)])); rfl)
    have q2 := HYd.out.frozen 8
    go_simp
    have hB' := HYd.out.set_ 8 (.bool m.x.okf)
    have hO' := Only.set_ v3 (b0 + 2) 8 (.bool m.x.okf)
    obtain ⟨v4, ev⟩ : ∃ v, v3.setCell ⟨b0 + 2, 8, none⟩ (.bool m.x.okf) = v := ⟨_, rfl⟩
    rw [ev] at hB' hO' ⊢
    clear ev q1 q2
    have HYd := Lh hB'
    have HRd := Lh (hO'.blk HRd.out (by omega))
    have HBd := Lh (HBd.out.trans (hO'.below (by omega)))
    refine hQ.out _ _ (trivial) (fun hH2 => ?_)
    clear hQ K hB' hO' hH
    have hH := hH2
    clear hH2
    try simp only [Act.put, pA9, pZ9, pS9]
    refine wpAnyT_done (by kernel_rfl) ?_ _
    clear hH
    have hfin : (((((partZ m.x.kind m).setIfInBounds 3 (.int .u64 (m.x.term : Int))).setIfInBounds 4 (.int .u64 (m.x.index : Int))).setIfInBounds 7 (.int .u64 (m.x.ctx : Int))).setIfInBounds 8 (.bool m.x.okf)) = mgCs (pM 6 m) := by (simp only [mgCs, mgA, pM, partZ, setL, List.setIfInBounds_toArray, List.set_cons_zero, List.set_cons_succ]) <;> rfl
    have HF : Hid (Blk _ (b0 + 2) 38 (mgCs (pM 6 m))) := Lh (by have h := HYd.out; rw [hfin] at h; exact h)
    clear hfin
    go_wp2_with (first
      | (refine wpl_load_blk rfl 38 (.tmp 4) rfl (b0 + 2) 38 (mgCs (pM 6 m)) _ rfl HF.out Tryz.underlying38 rfl sizeMs6 ?_)
      | (refine wpl_store_blk rfl 38 (.tmp 2) (.tmp 173) rfl (b0 + 1) 38 _ (mgCs (pM 6 m)) rfl rfl HRd.out rfl sizeMs6 rfl ?_
         intro z9 hB9 hO9))
    exact bodyPost_ret (v := .tuple #[.agg (mgCs (pM 6 m)), .bool true]) (res_ct Tryz.results34 rfl rfl (load_blk hB9.out Tryz.underlying38 rfl sizeMs6)) rfl ⟨rfl, by rw [HE.out]; exact HBd.out.trans (hO9.out.below (by omega))⟩
end Go.Proofs.YtlnneacgllhdhaaGreatDoor
end
