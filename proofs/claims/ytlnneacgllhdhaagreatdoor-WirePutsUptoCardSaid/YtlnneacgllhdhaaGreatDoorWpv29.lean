/-
  THE REFERENCE's PART of a message, more kinds. (printed by gen_wirc6.py). (joined out of WirC6c by shake.py)
-/
import Derived.Test.YtlnneacgllhdhaaGreatDoorWpv27
section
namespace Go.Proofs.YtlnneacgllhdhaaGreatDoor
open Go.RowKit OctMath
set_option linter.unusedVariables false
set_option linter.unusedSimpArgs false
set_option maxRecDepth 100000 in
set_option maxHeartbeats 16000000 in
theorem part_10 (m : MG) (w : World) (hk : m.x.kind = 10) : Calls Tryz.prog 34 #[.agg (mgCs m)] w (RetPart (pM 10 m) true w) := by
  rcases hk with hk
  all_goals
    have HK := Lh hk
    obtain ⟨b0, w0, w1, w2, eb0, ew0, ew1, ew2, hs0, hs1, HX, HR, HY, HB, HX1⟩ := part_pre m w
    have HE := Lh eb0
    have c0 : w1.cell? ⟨b0, 0, none⟩ = some (.int .i64 m.x.kind) := HX1.out.cell 0
    have c1 : w1.cell? ⟨b0, 1, none⟩ = some (.int .i64 m.x.from_) := HX1.out.cell 1
    have c2 : w1.cell? ⟨b0, 2, none⟩ = some (.int .i64 m.x.to_) := HX1.out.cell 2
    rw [hk] at c0
    clear hk
    go_enter Tryz.func34, Tryz.ntmps34
    go_upto_region 21 with (first
        | rw [ew0]
        | rw [ew1]
        | rw [ew2]
        | rw [eb0]
        | rw [hs0]
        | rw [hs1]
        | (refine wpl_store_blk rfl 38 (.tmp 4) (.tmp 11) rfl (b0 + 2) 38 _ (partZ m.x.kind m) rfl (by rw [HK.out]; rfl) HY.out rfl sizeMs6 rfl ?_
           intro w3 hY3 hO3
           have HY3 := hY3
           have HX3 := Lh (hO3.out.blk HX.out (by omega))
           have HR3 := Lh (hO3.out.blk HR.out (by omega))
           have HB3 := Lh (HB.out.trans (hO3.out.below (by omega)))
           have d0 : w3.cell? ⟨b0, 0, none⟩ = some (.int .i64 m.x.kind) := HX3.out.cell 0
           rw [HK.out] at d0
           clear c0 c1 c2 hY3 hO3))
    clear ew0 ew1 ew2 hs0 hs1 eb0 d0
    refine wp_region_late (S0 := fun _ => True) (S := fun w' => Blk w' b0 38 (mgCs m)) 7 8 (by kernel_rfl) rfl ⟨trivial, HX3.out.drew⟩ (fun wd hwd hH => ?_)
    have HYd : Hid (Blk wd (b0 + 2) 38 (partZ m.x.kind m)) := Lh (by rw [hwd]; exact HY3.out.drew)
    have HRd : Hid (Blk wd (b0 + 1) 38 _) := Lh (by rw [hwd]; exact HR3.out.drew)
    have HBd := Lh (show Below b0 w wd from by rw [hwd]; exact HB3.out.drew)
    clear hwd
    refine wpAnyT_take 0 (v := ?_) rfl (by kernel_rfl) (fun _ _ _ h => h) (Or.inl ⟨by rfl, ?_⟩) hH ?_
    rotate_left
    · (intro wx hx; clear hx; go_simp <;> with_reducible rfl)
    try simp only [Act.put, pA9, pZ9, pS9]
    refine wpAnyT_take 1 (v := ?_) rfl (by kernel_rfl) (fun _ _ _ h => h) (Or.inl ⟨by rfl, ?_⟩) hH ?_
    rotate_left
    · (intro wx hx; have c13 : wx.cell? ⟨b0, 13, none⟩ = some (.int .u64 (m.x.head.id.ver : Int)) := hx.cell 13; have c14 : wx.cell? ⟨b0, 14, none⟩ = some (.int .i64 m.x.head.id.idx) := hx.cell 14; have c15 : wx.cell? ⟨b0, 15, none⟩ = some (.int .u64 (m.x.head.id.ep : Int)) := hx.cell 15; have c16 : wx.cell? ⟨b0, 16, none⟩ = some (.int .i64 m.x.head.k) := hx.cell 16; have c17 : wx.cell? ⟨b0, 17, none⟩ = some (.int .i64 m.x.head.n) := hx.cell 17; have c18 : wx.cell? ⟨b0, 18, none⟩ = some (.int .i64 m.x.head.size) := hx.cell 18; have c19 : wx.cell? ⟨b0, 19, none⟩ = some (.int .u32 (m.x.head.sum : Int)) := hx.cell 19; clear hx; go_simp <;> with_reducible rfl)
    try simp only [Act.put, pA9, pZ9, pS9]
    refine wpAnyT_take 2 (v := ?_) rfl (by kernel_rfl) (fun _ _ _ h => h) (Or.inl ⟨by rfl, ?_⟩) hH ?_
    rotate_left
    · (intro wx hx; clear hx; go_simp <;> with_reducible rfl)
    try simp only [Act.put, pA9, pZ9, pS9]
    refine wpAnyT_take 3 (v := ?_) rfl (by kernel_rfl) (fun _ _ _ h => h) (Or.inl ⟨by rfl, ?_⟩) hH ?_
    rotate_left
    · (intro wx hx; have c8 : wx.cell? ⟨b0, 8, none⟩ = some (.bool m.x.okf) := hx.cell 8; clear hx; go_simp <;> with_reducible rfl)
    try simp only [Act.put, pA9, pZ9, pS9]
    refine wpAnyT_stay 4 (v := ?_) rfl (by kernel_rfl) (fun _ _ _ h => h) (Or.inl ⟨by rfl, ?_⟩) ⟨hH.1, fun _ => hH.2⟩ ?_
    rotate_left
    · (intro wx hx; clear hx; go_simp <;> with_reducible rfl)
    try simp only [Act.put, pA9, pZ9, pS9]
    refine wpAnyT_one 5 rfl (by kernel_rfl) (fun K hQ => ?_)
    refine wp_store_part 32 (.tmp 109) (.tmp 106) rfl (b0 + 2) 13 38 _ _ #[.int .u64 (m.x.head.id.ver : Int), .int .i64 m.x.head.id.idx, .int .u64 (m.x.head.id.ep : Int), .int .i64 m.x.head.k, .int .i64 m.x.head.n, .int .i64 m.x.head.size, .int .u32 (m.x.head.sum : Int)] rfl rfl HYd.out (by show 13 + 7 ≤ 27; decide) rfl Tryz.sizeH rfl ?_
    intro v1 hB' hO'
    have hB' := hB'.out
    have hO' := hO'.out
    have HYd := Lh hB'
    have HRd := Lh (hO'.blk HRd.out (by omega))
    have HBd := Lh (HBd.out.trans (hO'.below (by omega)))
    refine hQ.out _ _ (⟨trivial, hO'.blk hH.2 (by omega)⟩) (fun hH2 => ?_)
    clear hQ K hB' hO' hH
    have hH := hH2
    clear hH2
    try simp only [Act.put, pA9, pZ9, pS9]
    refine wpAnyT_stay 6 (v := ?_) rfl (by kernel_rfl) (fun _ _ _ h => h) (Or.inl ⟨by rfl, ?_⟩) ⟨hH.1, fun _ => hH.2⟩ ?_
    rotate_left
    · (intro wx hx; clear hx; go_simp <;> with_reducible rfl)
    try simp only [Act.put, pA9, pZ9, pS9]
    refine wpAnyT_last 7 rfl (by kernel_rfl) (by decide) (fun K hQ => ?_)
    have q1 : v1.cell? ⟨b0 + 2, 8, none⟩ = some (.bool false) := (HYd.out.cell 8).trans (by (repeat (first | rw [setL_lt _ _ _ _ (by decide)] | rw [setL_ge _ _ _ _ (Nat.le_of_ble_eq_true rfl)] | rw [Array.getElem?_setIfInBounds_ne (by decide)])); rfl)
    have q2 := HYd.out.frozen 8
    go_simp
    have hB' := HYd.out.set_ 8 (.bool m.x.okf)
    have hO' := Only.set_ v1 (b0 + 2) 8 (.bool m.x.okf)
    obtain ⟨v2, ev⟩ : ∃ v, v1.setCell ⟨b0 + 2, 8, none⟩ (.bool m.x.okf) = v := ⟨_, rfl⟩
    rw [ev] at hB' hO' ⊢
    clear ev q1 q2
    have HYd := Lh hB'
    have HRd := Lh (hO'.blk HRd.out (by omega))
    have HBd := Lh (HBd.out.trans (hO'.below (by omega)))
    refine hQ.out _ _ (trivial) (fun hH2 => ?_)
    clear hQ K hB' hO' hH
    have hH := hH2
    clear hH2
    try simp only [Act.put, pA9, pZ9, pS9]
    refine wpAnyT_done (by kernel_rfl) ?_ _
    clear hH
    have hfin : ((setL (partZ m.x.kind m) 13 (#[.int .u64 (m.x.head.id.ver : Int), .int .i64 m.x.head.id.idx, .int .u64 (m.x.head.id.ep : Int), .int .i64 m.x.head.k, .int .i64 m.x.head.n, .int .i64 m.x.head.size, .int .u32 (m.x.head.sum : Int)] : Array Value).toList).setIfInBounds 8 (.bool m.x.okf)) = mgCs (pM 10 m) := by (simp only [mgCs, mgA, pM, partZ, setL, List.setIfInBounds_toArray, List.set_cons_zero, List.set_cons_succ]) <;> rfl
    have HF : Hid (Blk _ (b0 + 2) 38 (mgCs (pM 10 m))) := Lh (by have h := HYd.out; rw [hfin] at h; exact h)
    clear hfin
    go_wp2_with (first
      | (refine wpl_load_blk rfl 38 (.tmp 4) rfl (b0 + 2) 38 (mgCs (pM 10 m)) _ rfl HF.out Tryz.underlying38 rfl sizeMs6 ?_)
      | (refine wpl_store_blk rfl 38 (.tmp 2) (.tmp 173) rfl (b0 + 1) 38 _ (mgCs (pM 10 m)) rfl rfl HRd.out rfl sizeMs6 rfl ?_
         intro z9 hB9 hO9))
    exact bodyPost_ret (v := .tuple #[.agg (mgCs (pM 10 m)), .bool true]) (res_ct Tryz.results34 rfl rfl (load_blk hB9.out Tryz.underlying38 rfl sizeMs6)) rfl ⟨rfl, by rw [HE.out]; exact HBd.out.trans (hO9.out.below (by omega))⟩
set_option maxRecDepth 100000 in
set_option maxHeartbeats 16000000 in
theorem part_11 (m : MG) (w : World) (hk : m.x.kind = 15) : Calls Tryz.prog 34 #[.agg (mgCs m)] w (RetPart (pM 11 m) true w) := by
  rcases hk with hk
  all_goals
    have HK := Lh hk
    obtain ⟨b0, w0, w1, w2, eb0, ew0, ew1, ew2, hs0, hs1, HX, HR, HY, HB, HX1⟩ := part_pre m w
    have HE := Lh eb0
    have c0 : w1.cell? ⟨b0, 0, none⟩ = some (.int .i64 m.x.kind) := HX1.out.cell 0
    have c1 : w1.cell? ⟨b0, 1, none⟩ = some (.int .i64 m.x.from_) := HX1.out.cell 1
    have c2 : w1.cell? ⟨b0, 2, none⟩ = some (.int .i64 m.x.to_) := HX1.out.cell 2
    rw [hk] at c0
    clear hk
    go_enter Tryz.func34, Tryz.ntmps34
    go_upto_region 28 with (first
        | rw [ew0]
        | rw [ew1]
        | rw [ew2]
        | rw [eb0]
        | rw [hs0]
        | rw [hs1]
        | (refine wpl_store_blk rfl 38 (.tmp 4) (.tmp 11) rfl (b0 + 2) 38 _ (partZ m.x.kind m) rfl (by rw [HK.out]; rfl) HY.out rfl sizeMs6 rfl ?_
           intro w3 hY3 hO3
           have HY3 := hY3
           have HX3 := Lh (hO3.out.blk HX.out (by omega))
           have HR3 := Lh (hO3.out.blk HR.out (by omega))
           have HB3 := Lh (HB.out.trans (hO3.out.below (by omega)))
           have d0 : w3.cell? ⟨b0, 0, none⟩ = some (.int .i64 m.x.kind) := HX3.out.cell 0
           rw [HK.out] at d0
           clear c0 c1 c2 hY3 hO3))
    clear ew0 ew1 ew2 hs0 hs1 eb0 d0
    refine wp_region_late (S0 := fun _ => True) (S := fun w' => Blk w' b0 38 (mgCs m)) 11 12 (by kernel_rfl) rfl ⟨trivial, HX3.out.drew⟩ (fun wd hwd hH => ?_)
    have HYd : Hid (Blk wd (b0 + 2) 38 (partZ m.x.kind m)) := Lh (by rw [hwd]; exact HY3.out.drew)
    have HRd : Hid (Blk wd (b0 + 1) 38 _) := Lh (by rw [hwd]; exact HR3.out.drew)
    have HBd := Lh (show Below b0 w wd from by rw [hwd]; exact HB3.out.drew)
    clear hwd
    refine wpAnyT_take 0 (v := ?_) rfl (by kernel_rfl) (fun _ _ _ h => h) (Or.inl ⟨by rfl, ?_⟩) hH ?_
    rotate_left
    · (intro wx hx; clear hx; go_simp <;> with_reducible rfl)
    try simp only [Act.put, pA9, pZ9, pS9]
    refine wpAnyT_take 1 (v := ?_) rfl (by kernel_rfl) (fun _ _ _ h => h) (Or.inl ⟨by rfl, ?_⟩) hH ?_
    rotate_left
    · (intro wx hx; have c13 : wx.cell? ⟨b0, 13, none⟩ = some (.int .u64 (m.x.head.id.ver : Int)) := hx.cell 13; have c14 : wx.cell? ⟨b0, 14, none⟩ = some (.int .i64 m.x.head.id.idx) := hx.cell 14; have c15 : wx.cell? ⟨b0, 15, none⟩ = some (.int .u64 (m.x.head.id.ep : Int)) := hx.cell 15; have c16 : wx.cell? ⟨b0, 16, none⟩ = some (.int .i64 m.x.head.k) := hx.cell 16; have c17 : wx.cell? ⟨b0, 17, none⟩ = some (.int .i64 m.x.head.n) := hx.cell 17; have c18 : wx.cell? ⟨b0, 18, none⟩ = some (.int .i64 m.x.head.size) := hx.cell 18; have c19 : wx.cell? ⟨b0, 19, none⟩ = some (.int .u32 (m.x.head.sum : Int)) := hx.cell 19; clear hx; go_simp <;> with_reducible rfl)
    try simp only [Act.put, pA9, pZ9, pS9]
    refine wpAnyT_take 2 (v := ?_) rfl (by kernel_rfl) (fun _ _ _ h => h) (Or.inl ⟨by rfl, ?_⟩) hH ?_
    rotate_left
    · (intro wx hx; clear hx; go_simp <;> with_reducible rfl)
    try simp only [Act.put, pA9, pZ9, pS9]
    refine wpAnyT_take 3 (v := ?_) rfl (by kernel_rfl) (fun _ _ _ h => h) (Or.inl ⟨by rfl, ?_⟩) hH ?_
    rotate_left
    · (intro wx hx; have c8 : wx.cell? ⟨b0, 8, none⟩ = some (.bool m.x.okf) := hx.cell 8; clear hx; go_simp <;> with_reducible rfl)
    try simp only [Act.put, pA9, pZ9, pS9]
    refine wpAnyT_take 4 (v := ?_) rfl (by kernel_rfl) (fun _ _ _ h => h) (Or.inl ⟨by rfl, ?_⟩) hH ?_
    rotate_left
    · (intro wx hx; clear hx; go_simp <;> with_reducible rfl)
    try simp only [Act.put, pA9, pZ9, pS9]
    refine wpAnyT_take 5 (v := ?_) rfl (by kernel_rfl) (fun _ _ _ h => h) (Or.inl ⟨by rfl, ?_⟩) hH ?_
    rotate_left
    · (intro wx hx; have c20 : wx.cell? ⟨b0, 20, none⟩ = some (.slice m.Ad m.x.data.length m.cd) := hx.cell 20; clear hx; go_simp <;> with_reducible rfl)
    try simp only [Act.put, pA9, pZ9, pS9]
    refine wpAnyT_stay 6 (v := ?_) rfl (by kernel_rfl) (fun _ _ _ h => h) (Or.inl ⟨by rfl, ?_⟩) ⟨hH.1, fun _ => hH.2⟩ ?_
    rotate_left
    · (intro wx hx; clear hx; go_simp <;> with_reducible rfl)
    try simp only [Act.put, pA9, pZ9, pS9]
    refine wpAnyT_one 7 rfl (by kernel_rfl) (fun K hQ => ?_)
    refine wp_store_part 32 (.tmp 127) (.tmp 122) rfl (b0 + 2) 13 38 _ _ #[.int .u64 (m.x.head.id.ver : Int), .int .i64 m.x.head.id.idx, .int .u64 (m.x.head.id.ep : Int), .int .i64 m.x.head.k, .int .i64 m.x.head.n, .int .i64 m.x.head.size, .int .u32 (m.x.head.sum : Int)] rfl rfl HYd.out (by show 13 + 7 ≤ 27; decide) rfl Tryz.sizeH rfl ?_
    intro v1 hB' hO'
    have hB' := hB'.out
    have hO' := hO'.out
    have HYd := Lh hB'
    have HRd := Lh (hO'.blk HRd.out (by omega))
    have HBd := Lh (HBd.out.trans (hO'.below (by omega)))
    refine hQ.out _ _ (⟨trivial, hO'.blk hH.2 (by omega)⟩) (fun hH2 => ?_)
    clear hQ K hB' hO' hH
    have hH := hH2
    clear hH2
    try simp only [Act.put, pA9, pZ9, pS9]
    refine wpAnyT_stay 8 (v := ?_) rfl (by kernel_rfl) (fun _ _ _ h => h) (Or.inl ⟨by rfl, ?_⟩) ⟨hH.1, fun _ => hH.2⟩ ?_
    rotate_left
    · (intro wx hx; clear hx; go_simp <;> with_reducible rfl)
    try simp only [Act.put, pA9, pZ9, pS9]
    refine wpAnyT_one 9 rfl (by kernel_rfl) (fun K hQ => ?_)
    have q1 : v1.cell? ⟨b0 + 2, 8, none⟩ = some (.bool false) := (HYd.out.cell 8).trans (by (repeat (first | rw [setL_lt _ _ _ _ (by decide)] | rw [setL_ge _ _ _ _ (Nat.le_of_ble_eq_true rfl)] | rw [Array.getElem?_setIfInBounds_ne (by decide)])); rfl)
    have q2 := HYd.out.frozen 8
    go_simp
    have hB' := HYd.out.set_ 8 (.bool m.x.okf)
    have hO' := Only.set_ v1 (b0 + 2) 8 (.bool m.x.okf)
    obtain ⟨v2, ev⟩ : ∃ v, v1.setCell ⟨b0 + 2, 8, none⟩ (.bool m.x.okf) = v := ⟨_, rfl⟩
    rw [ev] at hB' hO' ⊢
    clear ev q1 q2
    have HYd := Lh hB'
    have HRd := Lh (hO'.blk HRd.out (by omega))
    have HBd := Lh (HBd.out.trans (hO'.below (by omega)))
    refine hQ.out _ _ (⟨trivial, hO'.blk hH.2 (by omega)⟩) (fun hH2 => ?_)
    clear hQ K hB' hO' hH
    have hH := hH2
    clear hH2
    try simp only [Act.put, pA9, pZ9, pS9]
    refine wpAnyT_stay 10 (v := ?_) rfl (by kernel_rfl) (fun _ _ _ h => h) (Or.inl ⟨by rfl, ?_⟩) ⟨hH.1, fun _ => hH.2⟩ ?_
    rotate_left
    · (intro wx hx; clear hx; go_simp <;> with_reducible rfl)
    try simp only [Act.put, pA9, pZ9, pS9]
    refine wpAnyT_last 11 rfl (by kernel_rfl) (by decide) (fun K hQ => ?_)
    have q1 : v2.cell? ⟨b0 + 2, 20, none⟩ = some (.slice none 0 0) := (HYd.out.cell 20).trans (by (repeat (first | rw [setL_lt _ _ _ _ (by decide)] | rw [setL_ge _ _ _ _ (Nat.le_of_ble_eq_true rfl)] | rw [Array.getElem?_setIfInBounds_ne (by decide)])); rfl)
    have q2 := HYd.out.frozen 20
    go_simp
    have hB' := HYd.out.set_ 20 (.slice m.Ad m.x.data.length m.cd)
    have hO' := Only.set_ v2 (b0 + 2) 20 (.slice m.Ad m.x.data.length m.cd)
    obtain ⟨v3, ev⟩ : ∃ v, v2.setCell ⟨b0 + 2, 20, none⟩ (.slice m.Ad m.x.data.length m.cd) = v := ⟨_, rfl⟩
    rw [ev] at hB' hO' ⊢
    clear ev q1 q2
    have HYd := Lh hB'
    have HRd := Lh (hO'.blk HRd.out (by omega))
    have HBd := Lh (HBd.out.trans (hO'.below (by omega)))
    refine hQ.out _ _ (trivial) (fun hH2 => ?_)
    clear hQ K hB' hO' hH
    have hH := hH2
    clear hH2
    try simp only [Act.put, pA9, pZ9, pS9]
    refine wpAnyT_done (by kernel_rfl) ?_ _
    clear hH
    have hfin : (((setL (partZ m.x.kind m) 13 (#[.int .u64 (m.x.head.id.ver : Int), .int .i64 m.x.head.id.idx, .int .u64 (m.x.head.id.ep : Int), .int .i64 m.x.head.k, .int .i64 m.x.head.n, .int .i64 m.x.head.size, .int .u32 (m.x.head.sum : Int)] : Array Value).toList).setIfInBounds 8 (.bool m.x.okf)).setIfInBounds 20 (.slice m.Ad m.x.data.length m.cd)) = mgCs (pM 11 m) := by (simp only [mgCs, mgA, pM, partZ, setL, List.setIfInBounds_toArray, List.set_cons_zero, List.set_cons_succ]) <;> rfl
    have HF : Hid (Blk _ (b0 + 2) 38 (mgCs (pM 11 m))) := Lh (by have h := HYd.out; rw [hfin] at h; exact h)
    clear hfin
    go_wp2_with (first
      | (refine wpl_load_blk rfl 38 (.tmp 4) rfl (b0 + 2) 38 (mgCs (pM 11 m)) _ rfl HF.out Tryz.underlying38 rfl sizeMs6 ?_)
      | (refine wpl_store_blk rfl 38 (.tmp 2) (.tmp 173) rfl (b0 + 1) 38 _ (mgCs (pM 11 m)) rfl rfl HRd.out rfl sizeMs6 rfl ?_
         intro z9 hB9 hO9))
    exact bodyPost_ret (v := .tuple #[.agg (mgCs (pM 11 m)), .bool true]) (res_ct Tryz.results34 rfl rfl (load_blk hB9.out Tryz.underlying38 rfl sizeMs6)) rfl ⟨rfl, by rw [HE.out]; exact HBd.out.trans (hO9.out.below (by omega))⟩
set_option maxRecDepth 100000 in
set_option maxHeartbeats 16000000 in
theorem part_0 (m : MG) (w : World) (hk : ∀ j : Nat, 1 ≤ j → j ≤ 19 → m.x.kind ≠ (j : Int)) : Calls Tryz.prog 34 #[.agg (mgCs m)] w (RetPart (pM 0 m) false w) := by
  have n1 : (m.x.kind == 1) = false := by rw [beq_eq_false_iff_ne]; exact hk 1 (by decide) (by decide)
  have n2 : (m.x.kind == 2) = false := by rw [beq_eq_false_iff_ne]; exact hk 2 (by decide) (by decide)
  have n3 : (m.x.kind == 3) = false := by rw [beq_eq_false_iff_ne]; exact hk 3 (by decide) (by decide)
  have n4 : (m.x.kind == 4) = false := by rw [beq_eq_false_iff_ne]; exact hk 4 (by decide) (by decide)
  have n5 : (m.x.kind == 5) = false := by rw [beq_eq_false_iff_ne]; exact hk 5 (by decide) (by decide)
  have n6 : (m.x.kind == 6) = false := by rw [beq_eq_false_iff_ne]; exact hk 6 (by decide) (by decide)
  have n7 : (m.x.kind == 7) = false := by rw [beq_eq_false_iff_ne]; exact hk 7 (by decide) (by decide)
  have n8 : (m.x.kind == 8) = false := by rw [beq_eq_false_iff_ne]; exact hk 8 (by decide) (by decide)
  have n9 : (m.x.kind == 9) = false := by rw [beq_eq_false_iff_ne]; exact hk 9 (by decide) (by decide)
  have n10 : (m.x.kind == 10) = false := by rw [beq_eq_false_iff_ne]; exact hk 10 (by decide) (by decide)
  have n11 : (m.x.kind == 11) = false := by rw [beq_eq_false_iff_ne]; exact hk 11 (by decide) (by decide)
  have n12 : (m.x.kind == 12) = false := by rw [beq_eq_false_iff_ne]; exact hk 12 (by decide) (by decide)
  have n13 : (m.x.kind == 13) = false := by rw [beq_eq_false_iff_ne]; exact hk 13 (by decide) (by decide)
  have n14 : (m.x.kind == 14) = false := by rw [beq_eq_false_iff_ne]; exact hk 14 (by decide) (by decide)
  have n15 : (m.x.kind == 15) = false := by rw [beq_eq_false_iff_ne]; exact hk 15 (by decide) (by decide)
  have n16 : (m.x.kind == 16) = false := by rw [beq_eq_false_iff_ne]; exact hk 16 (by decide) (by decide)
  have n17 : (m.x.kind == 17) = false := by rw [beq_eq_false_iff_ne]; exact hk 17 (by decide) (by decide)
  have n18 : (m.x.kind == 18) = false := by rw [beq_eq_false_iff_ne]; exact hk 18 (by decide) (by decide)
  have n19 : (m.x.kind == 19) = false := by rw [beq_eq_false_iff_ne]; exact hk 19 (by decide) (by decide)
  clear hk
  obtain ⟨b0, w0, w1, w2, eb0, ew0, ew1, ew2, hs0, hs1, HX, HR, HY, HB, HX1⟩ := part_pre m w
  have HE := Lh eb0
  have c0 : w1.cell? ⟨b0, 0, none⟩ = some (.int .i64 m.x.kind) := HX1.out.cell 0
  have c1 : w1.cell? ⟨b0, 1, none⟩ = some (.int .i64 m.x.from_) := HX1.out.cell 1
  have c2 : w1.cell? ⟨b0, 2, none⟩ = some (.int .i64 m.x.to_) := HX1.out.cell 2
  go_enter Tryz.func34, Tryz.ntmps34
  go_upto_region 3 with (first
      | rw [ew0]
      | rw [ew1]
      | rw [ew2]
      | rw [eb0]
      | rw [hs0]
      | rw [hs1]
      | (refine wpl_store_blk rfl 38 (.tmp 4) (.tmp 11) rfl (b0 + 2) 38 _ (partZ m.x.kind m) rfl rfl HY.out rfl sizeMs6 rfl ?_
         intro w3 hY3 hO3
         have HY3 := hY3
         have HX3 := Lh (hO3.out.blk HX.out (by omega))
         have HR3 := Lh (hO3.out.blk HR.out (by omega))
         have HB3 := Lh (HB.out.trans (hO3.out.below (by omega)))
         have d0 : w3.cell? ⟨b0, 0, none⟩ = some (.int .i64 m.x.kind) := HX3.out.cell 0
         clear c0 c1 c2 hY3 hO3))
  clear ew0 ew1 ew2 hs0 hs1 eb0 d0
  have hfin : (partZ m.x.kind m) = mgCs (pM 0 m) := by (simp only [mgCs, mgA, pM, partZ, setL, List.setIfInBounds_toArray, List.set_cons_zero, List.set_cons_succ]) <;> rfl
  have HF : Hid (Blk _ (b0 + 2) 38 (mgCs (pM 0 m))) := Lh (by have h := HY3.out; rw [hfin] at h; exact h)
  clear hfin
  go_wp2_with (first
    | (refine wpl_load_blk rfl 38 (.tmp 4) rfl (b0 + 2) 38 (mgCs (pM 0 m)) _ rfl HF.out Tryz.underlying38 rfl sizeMs6 ?_)
    | (refine wpl_store_blk rfl 38 (.tmp 2) (.tmp 14) rfl (b0 + 1) 38 _ (mgCs (pM 0 m)) rfl rfl HR3.out rfl sizeMs6 rfl ?_
       intro z9 hB9 hO9))
  exact bodyPost_ret (v := .tuple #[.agg (mgCs (pM 0 m)), .bool false]) (res_ct Tryz.results34 rfl rfl (load_blk hB9.out Tryz.underlying38 rfl sizeMs6)) rfl ⟨rfl, by rw [HE.out]; exact HB3.out.trans (hO9.out.below (by omega))⟩
end Go.Proofs.YtlnneacgllhdhaaGreatDoor
end
