/-
  THE REFERENCE's PART of a message, more kinds. (printed by gen_wirc6.py). (joined out of WirC6f by shake.py)
-/
import Derived.Test.YtlnneacgllhdhaaGreatDoorWpv27
section
namespace Go.Proofs.YtlnneacgllhdhaaGreatDoor
open Go.RowKit OctMath
set_option linter.unusedVariables false
set_option linter.unusedSimpArgs false
set_option maxRecDepth 100000 in
set_option maxHeartbeats 16000000 in
theorem part_3 (m : MG) (w : World) (hk : m.x.kind = 11 ∨ m.x.kind = 12 ∨ m.x.kind = 13 ∨ m.x.kind = 14) : Calls Tryz.prog 34 #[.agg (mgCs m)] w (RetPart (pM 3 m) true w) := by
  rcases hk with hk | hk | hk | hk
  all_goals
    have HK := Lh hk
    obtain ⟨b0, w0, w1, w2, eb0, ew0, ew1, ew2, hs0, hs1, HX, HR, HY, HB, HX1⟩ := part_pre m w
    have HE := Lh eb0
    have c0 : w1.cell? ⟨b0, 0, none⟩ = some (.int .i64 m.x.kind) := HX1.out.cell 0
    have c1 : w1.cell? ⟨b0, 1, none⟩ = some (.int .i64 m.x.from_) := HX1.out.cell 1
    have c2 : w1.cell? ⟨b0, 2, none⟩ = some (.int .i64 m.x.to_) := HX1.out.cell 2
    rw [hk] at c0
    clear hk
    go_enter Tryz.func34, Tryz.ntmps34
    go_upto_region 26 with (first
        | rw [ew0]
        | rw [ew1]
        | rw [ew2]
        | rw [eb0]
        | rw [hs0]
        | rw [hs1]
        | (refine wpl_store_blk rfl 38 (.tmp 4) (.tmp 11) rfl (b0 + 2) 38 _ (partZ m.x.kind m) rfl (by rw [HK.out]; rfl) HY.out rfl sizeMs6 rfl ?_
           intro w3 hY3 hO3
           have HY3 := hY3
           have HX3 := Lh (hO3.out.blk HX.out (by omega))
           have HR3 := Lh (hO3.out.blk HR.out (by omega))
           have HB3 := Lh (HB.out.trans (hO3.out.below (by omega)))
           have d0 : w3.cell? ⟨b0, 0, none⟩ = some (.int .i64 m.x.kind) := HX3.out.cell 0
           rw [HK.out] at d0
           clear c0 c1 c2 hY3 hO3))
    clear ew0 ew1 ew2 hs0 hs1 eb0 d0
    have HYd := HY3
    have HRd := HR3
    have HBd := HB3
    clear HY3 HR3 HB3
    have c13 : w3.cell? ⟨b0, 13, none⟩ = some (.int .u64 (m.x.head.id.ver : Int)) := HX3.out.cell 13
    have c14 : w3.cell? ⟨b0, 14, none⟩ = some (.int .i64 m.x.head.id.idx) := HX3.out.cell 14
    have c15 : w3.cell? ⟨b0, 15, none⟩ = some (.int .u64 (m.x.head.id.ep : Int)) := HX3.out.cell 15
    have c16 : w3.cell? ⟨b0, 16, none⟩ = some (.int .i64 m.x.head.k) := HX3.out.cell 16
    have c17 : w3.cell? ⟨b0, 17, none⟩ = some (.int .i64 m.x.head.n) := HX3.out.cell 17
    have c18 : w3.cell? ⟨b0, 18, none⟩ = some (.int .i64 m.x.head.size) := HX3.out.cell 18
    have c19 : w3.cell? ⟨b0, 19, none⟩ = some (.int .u32 (m.x.head.sum : Int)) := HX3.out.cell 19
    go_upto_region 36 with (refine wpl_store_part rfl 32 (.tmp 118) (.tmp 117) rfl (b0 + 2) 13 38 _ _ #[.int .u64 (m.x.head.id.ver : Int), .int .i64 m.x.head.id.idx, .int .u64 (m.x.head.id.ep : Int), .int .i64 m.x.head.k, .int .i64 m.x.head.n, .int .i64 m.x.head.size, .int .u32 (m.x.head.sum : Int)] rfl rfl HYd.out (by show 13 + 7 ≤ 27; decide) rfl Tryz.sizeH rfl ?_; intro v1 hB1 hO1; clear c13 c14 c15 c16 c17 c18 c19)
    have HYd := hB1
    have HRd := Lh (hO1.out.blk HRd.out (by omega))
    have HBd := Lh (HBd.out.trans (hO1.out.below (by omega)))
    have hfin : (setL (partZ m.x.kind m) 13 (#[.int .u64 (m.x.head.id.ver : Int), .int .i64 m.x.head.id.idx, .int .u64 (m.x.head.id.ep : Int), .int .i64 m.x.head.k, .int .i64 m.x.head.n, .int .i64 m.x.head.size, .int .u32 (m.x.head.sum : Int)] : Array Value).toList) = mgCs (pM 3 m) := by (simp only [mgCs, mgA, pM, partZ, setL, List.setIfInBounds_toArray, List.set_cons_zero, List.set_cons_succ]) <;> rfl
    have HF : Hid (Blk _ (b0 + 2) 38 (mgCs (pM 3 m))) := Lh (by have h := HYd.out; rw [hfin] at h; exact h)
    clear hfin
    go_wp2_with (first
      | (refine wpl_load_blk rfl 38 (.tmp 4) rfl (b0 + 2) 38 (mgCs (pM 3 m)) _ rfl HF.out Tryz.underlying38 rfl sizeMs6 ?_)
      | (refine wpl_store_blk rfl 38 (.tmp 2) (.tmp 173) rfl (b0 + 1) 38 _ (mgCs (pM 3 m)) rfl rfl HRd.out rfl sizeMs6 rfl ?_
         intro z9 hB9 hO9))
    exact bodyPost_ret (v := .tuple #[.agg (mgCs (pM 3 m)), .bool true]) (res_ct Tryz.results34 rfl rfl (load_blk hB9.out Tryz.underlying38 rfl sizeMs6)) rfl ⟨rfl, by rw [HE.out]; exact HBd.out.trans (hO9.out.below (by omega))⟩
end Go.Proofs.YtlnneacgllhdhaaGreatDoor
end
