/-
  THE REFERENCE's PART of a message, more kinds. (printed by gen_wirc6.py). (joined out of WirC6e by shake.py)
-/
import Derived.Test.YtlnneacgllhdhaaGreatDoorWpv27
section
namespace Go.Proofs.YtlnneacgllhdhaaGreatDoor
open Go.RowKit OctMath
set_option linter.unusedVariables false
set_option linter.unusedSimpArgs false
set_option maxRecDepth 100000 in
set_option maxHeartbeats 16000000 in
theorem part_1 (m : MG) (w : World) (hk : m.x.kind = 1 ∨ m.x.kind = 3) : Calls Tryz.prog 34 #[.agg (mgCs m)] w (RetPart (pM 1 m) true w) := by
  rcases hk with hk | hk
  all_goals
    have HK := Lh hk
    obtain ⟨b0, w0, w1, w2, eb0, ew0, ew1, ew2, hs0, hs1, HX, HR, HY, HB, HX1⟩ := part_pre m w
    have HE := Lh eb0
    have c0 : w1.cell? ⟨b0, 0, none⟩ = some (.int .i64 m.x.kind) := HX1.out.cell 0
    have c1 : w1.cell? ⟨b0, 1, none⟩ = some (.int .i64 m.x.from_) := HX1.out.cell 1
    have c2 : w1.cell? ⟨b0, 2, none⟩ = some (.int .i64 m.x.to_) := HX1.out.cell 2
    rw [hk] at c0
    clear hk
    go_enter Tryz.func34, Tryz.ntmps34
    go_upto_region 6 with (first
        | rw [ew0]
        | rw [ew1]
        | rw [ew2]
        | rw [eb0]
        | rw [hs0]
        | rw [hs1]
        | (refine wpl_store_blk rfl 38 (.tmp 4) (.tmp 11) rfl (b0 + 2) 38 _ (partZ m.x.kind m) rfl (by rw [HK.out]; rfl) HY.out rfl sizeMs6 rfl ?_
           intro w3 hY3 hO3
           have HY3 := hY3
           have HX3 := Lh (hO3.out.blk HX.out (by omega))
           have HR3 := Lh (hO3.out.blk HR.out (by omega))
           have HB3 := Lh (HB.out.trans (hO3.out.below (by omega)))
           have d0 : w3.cell? ⟨b0, 0, none⟩ = some (.int .i64 m.x.kind) := HX3.out.cell 0
           rw [HK.out] at d0
           clear c0 c1 c2 hY3 hO3))
    clear ew0 ew1 ew2 hs0 hs1 eb0 d0
    refine wp_region_late (S0 := fun _ => True) (S := fun w' => Blk w' b0 38 (mgCs m)) 15 16 (by kernel_rfl) rfl ⟨trivial, HX3.out.drew⟩ (fun wd hwd hH => ?_)
    have HYd : Hid (Blk wd (b0 + 2) 38 (partZ m.x.kind m)) := Lh (by rw [hwd]; exact HY3.out.drew)
    have HRd : Hid (Blk wd (b0 + 1) 38 _) := Lh (by rw [hwd]; exact HR3.out.drew)
    have HBd := Lh (show Below b0 w wd from by rw [hwd]; exact HB3.out.drew)
    clear hwd
    refine wpAnyT_take 0 (v := ?_) rfl (by kernel_rfl) (fun _ _ _ h => h) (Or.inl ⟨by rfl, ?_⟩) hH ?_
    rotate_left
    · (intro wx hx; clear hx; go_simp <;> with_reducible rfl)
    try simp only [Act.put, pA9, pZ9, pS9]
    refine wpAnyT_take 1 (v := ?_) rfl (by kernel_rfl) (fun _ _ _ h => h) (Or.inl ⟨by rfl, ?_⟩) hH ?_
    rotate_left
    · (intro wx hx; have c3 : wx.cell? ⟨b0, 3, none⟩ = some (.int .u64 (m.x.term : Int)) := hx.cell 3; clear hx; go_simp <;> with_reducible rfl)
    try simp only [Act.put, pA9, pZ9, pS9]
    refine wpAnyT_take 2 (v := ?_) rfl (by kernel_rfl) (fun _ _ _ h => h) (Or.inl ⟨by rfl, ?_⟩) hH ?_
    rotate_left
    · (intro wx hx; clear hx; go_simp <;> with_reducible rfl)
    try simp only [Act.put, pA9, pZ9, pS9]
    refine wpAnyT_take 3 (v := ?_) rfl (by kernel_rfl) (fun _ _ _ h => h) (Or.inl ⟨by rfl, ?_⟩) hH ?_
    rotate_left
    · (intro wx hx; have c4 : wx.cell? ⟨b0, 4, none⟩ = some (.int .u64 (m.x.index : Int)) := hx.cell 4; clear hx; go_simp <;> with_reducible rfl)
    try simp only [Act.put, pA9, pZ9, pS9]
    refine wpAnyT_take 4 (v := ?_) rfl (by kernel_rfl) (fun _ _ _ h => h) (Or.inl ⟨by rfl, ?_⟩) hH ?_
    rotate_left
    · (intro wx hx; clear hx; go_simp <;> with_reducible rfl)
    try simp only [Act.put, pA9, pZ9, pS9]
    refine wpAnyT_take 5 (v := ?_) rfl (by kernel_rfl) (fun _ _ _ h => h) (Or.inl ⟨by rfl, ?_⟩) hH ?_
    rotate_left
    · (intro wx hx; have c5 : wx.cell? ⟨b0, 5, none⟩ = some (.int .u64 (m.x.logTerm : Int)) := hx.cell 5; clear hx; go_simp <;> with_reducible rfl)
    try simp only [Act.put, pA9, pZ9, pS9]
    refine wpAnyT_take 6 (v := ?_) rfl (by kernel_rfl) (fun _ _ _ h => h) (Or.inl ⟨by rfl, ?_⟩) hH ?_
    rotate_left
    · (intro wx hx; clear hx; go_simp <;> with_reducible rfl)
    try simp only [Act.put, pA9, pZ9, pS9]
    refine wpAnyT_take 7 (v := ?_) rfl (by kernel_rfl) (fun _ _ _ h => h) (Or.inl ⟨by rfl, ?_⟩) hH ?_
    rotate_left
    · (intro wx hx; have c9 : wx.cell? ⟨b0, 9, none⟩ = some (.bool m.x.force) := hx.cell 9; clear hx; go_simp <;> with_reducible rfl)
    try simp only [Act.put, pA9, pZ9, pS9]
    refine wpAnyT_stay 8 (v := ?_) rfl (by kernel_rfl) (fun _ _ _ h => h) (Or.inl ⟨by rfl, ?_⟩) ⟨hH.1, fun _ => hH.2⟩ ?_
    rotate_left
    · (intro wx hx; clear hx; go_simp <;> with_reducible rfl)
    try simp only [Act.put, pA9, pZ9, pS9]
    refine wpAnyT_one 9 rfl (by kernel_rfl) (fun K hQ => ?_)
    have q1 : wd.cell? ⟨b0 + 2, 3, none⟩ = some (.int .u64 0) := (HYd.out.cell 3).trans (by (repeat (first | rw [setL_lt _ _ _ _ (by decide)] | rw [setL_ge _ _ _ _ (Nat.le_of_ble_eq_true rfl)] | rw [Array.getElem?_setIfInBounds_ne (by decide)])); rfl)
    have q2 := HYd.out.frozen 3
    go_simp
    have hB' := HYd.out.set_ 3 (.int .u64 (m.x.term : Int))
    have hO' := Only.set_ wd (b0 + 2) 3 (.int .u64 (m.x.term : Int))
    obtain ⟨v1, ev⟩ : ∃ v, wd.setCell ⟨b0 + 2, 3, none⟩ (.int .u64 (m.x.term : Int)) = v := ⟨_, rfl⟩
    rw [ev] at hB' hO' ⊢
    clear ev q1 q2
    have HYd := Lh hB'
    have HRd := Lh (hO'.blk HRd.out (by omega))
    have HBd := Lh (HBd.out.trans (hO'.below (by omega)))
    refine hQ.out _ _ (⟨trivial, hO'.blk hH.2 (by omega)⟩) (fun hH2 => ?_)
    clear hQ K hB' hO' hH
    have hH := hH2
    clear hH2
    try simp only [Act.put, pA9, pZ9, pS9]
    refine wpAnyT_stay 10 (v := ?_) rfl (by kernel_rfl) (fun _ _ _ h => h) (Or.inl ⟨by rfl, ?_⟩) ⟨hH.1, fun _ => hH.2⟩ ?_
    rotate_left
    · (intro wx hx; clear hx; go_simp <;> with_reducible rfl)
    try simp only [Act.put, pA9, pZ9, pS9]
    refine wpAnyT_one 11 rfl (by kernel_rfl) (fun K hQ => ?_)
    have q1 : v1.cell? ⟨b0 + 2, 4, none⟩ = some (.int .u64 0) := (HYd.out.cell 4).trans (by (repeat (first | rw [setL_lt _ _ _ _ (by decide)] | rw [setL_ge _ _ _ _ (Nat.le_of_ble_eq_true rfl)] | rw [Array.getElem?_setIfInBounds_ne (by decide)])); rfl)
    have q2 := HYd.out.frozen 4
    go_simp
    have hB' := HYd.out.set_ 4 (.int .u64 (m.x.index : Int))
    have hO' := Only.set_ v1 (b0 + 2) 4 (.int .u64 (m.x.index : Int))
    obtain ⟨v2, ev⟩ : ∃ v, v1.setCell ⟨b0 + 2, 4, none⟩ (.int .u64 (m.x.index : Int)) = v := ⟨_, rfl⟩
    rw [ev] at hB' hO' ⊢
    clear ev q1 q2
    have HYd := Lh hB'
    have HRd := Lh (hO'.blk HRd.out (by omega))
    have HBd := Lh (HBd.out.trans (hO'.below (by omega)))
    refine hQ.out _ _ (⟨trivial, hO'.blk hH.2 (by omega)⟩) (fun hH2 => ?_)
    clear hQ K hB' hO' hH
    have hH := hH2
    clear hH2
    try simp only [Act.put, pA9, pZ9, pS9]
    refine wpAnyT_stay 12 (v := ?_) rfl (by kernel_rfl) (fun _ _ _ h => h) (Or.inl ⟨by rfl, ?_⟩) ⟨hH.1, fun _ => hH.2⟩ ?_
    rotate_left
    · (intro wx hx; clear hx; go_simp <;> with_reducible rfl)
    try simp only [Act.put, pA9, pZ9, pS9]
    refine wpAnyT_one 13 rfl (by kernel_rfl) (fun K hQ => ?_)
    have q1 : v2.cell? ⟨b0 + 2, 5, none⟩ = some (.int .u64 0) := (HYd.out.cell 5).trans (by (repeat (first | rw [setL_lt _ _ _ _ (by decide)] | rw [setL_ge _ _ _ _ (Nat.le_of_ble_eq_true rfl)] | rw [Array.getElem?_setIfInBounds_ne (by decide)])); rfl)
    have q2 := HYd.out.frozen 5
    go_simp
    have hB' := HYd.out.set_ 5 (.int .u64 (m.x.logTerm : Int))
    have hO' := Only.set_ v2 (b0 + 2) 5 (.int .u64 (m.x.logTerm : Int))
    obtain ⟨v3, ev⟩ : ∃ v, v2.setCell ⟨b0 + 2, 5, none⟩ (.int .u64 (m.x.logTerm : Int)) = v := ⟨_, rfl⟩
    rw [ev] at hB' hO' ⊢
    clear ev q1 q2
    have HYd := Lh hB'
    have HRd := Lh (hO'.blk HRd.out (by omega))
    have HBd := Lh (HBd.out.trans (hO'.below (by omega)))
    refine hQ.out _ _ (⟨trivial, hO'.blk hH.2 (by omega)⟩) (fun hH2 => ?_)
    clear hQ K hB' hO' hH
    have hH := hH2
    clear hH2
    try simp only [Act.put, pA9, pZ9, pS9]
    refine wpAnyT_stay 14 (v := ?_) rfl (by kernel_rfl) (fun _ _ _ h => h) (Or.inl ⟨by rfl, ?_⟩) ⟨hH.1, fun _ => hH.2⟩ ?_
    rotate_left
    · (intro wx hx; clear hx; go_simp <;> with_reducible rfl)
    try simp only [Act.put, pA9, pZ9, pS9]
    refine wpAnyT_last 15 rfl (by kernel_rfl) (by decide) (fun K hQ => ?_)
    have q1 : v3.cell? ⟨b0 + 2, 9, none⟩ = some (.bool false) := (HYd.out.cell 9).trans (by (repeat (first | rw [setL_lt _ _ _ _ (by decide)] | rw [setL_ge _ _ _ _ (Nat.le_of_ble_eq_true rfl)] | rw [Array.getElem?_setIfInBounds_ne (by decide)])); rfl)
    have q2 := HYd.out.frozen 9
    go_simp
    have hB' := HYd.out.set_ 9 (.bool m.x.force)
    have hO' := Only.set_ v3 (b0 + 2) 9 (.bool m.x.force)
    obtain ⟨v4, ev⟩ : ∃ v, v3.setCell ⟨b0 + 2, 9, none⟩ (.bool m.x.force) = v := ⟨_, rfl⟩
    rw [ev] at hB' hO' ⊢
    clear ev q1 q2
    have HYd := Lh hB'
    have HRd := Lh (hO'.blk HRd.out (by omega))
    have HBd := Lh (HBd.out.trans (hO'.below (by omega)))
    refine hQ.out _ _ (trivial) (fun hH2 => ?_)
    clear hQ K hB' hO' hH
    have hH := hH2
    clear hH2
    try simp only [Act.put, pA9, pZ9, pS9]
    refine wpAnyT_done (by kernel_rfl) ?_ _
    clear hH
    have hfin : (((((partZ m.x.kind m).setIfInBounds 3 (.int .u64 (m.x.term : Int))).setIfInBounds 4 (.int .u64 (m.x.index : Int))).setIfInBounds 5 (.int .u64 (m.x.logTerm : Int))).setIfInBounds 9 (.bool m.x.force)) = mgCs (pM 1 m) := by (simp only [mgCs, mgA, pM, partZ, setL, List.setIfInBounds_toArray, List.set_cons_zero, List.set_cons_succ]) <;> rfl
    have HF : Hid (Blk _ (b0 + 2) 38 (mgCs (pM 1 m))) := Lh (by have h := HYd.out; rw [hfin] at h; exact h)
    clear hfin
    go_wp2_with (first
      | (refine wpl_load_blk rfl 38 (.tmp 4) rfl (b0 + 2) 38 (mgCs (pM 1 m)) _ rfl HF.out Tryz.underlying38 rfl sizeMs6 ?_)
      | (refine wpl_store_blk rfl 38 (.tmp 2) (.tmp 173) rfl (b0 + 1) 38 _ (mgCs (pM 1 m)) rfl rfl HRd.out rfl sizeMs6 rfl ?_
         intro z9 hB9 hO9))
    exact bodyPost_ret (v := .tuple #[.agg (mgCs (pM 1 m)), .bool true]) (res_ct Tryz.results34 rfl rfl (load_blk hB9.out Tryz.underlying38 rfl sizeMs6)) rfl ⟨rfl, by rw [HE.out]; exact HBd.out.trans (hO9.out.below (by omega))⟩
set_option maxRecDepth 100000 in
set_option maxHeartbeats 16000000 in
theorem part_2 (m : MG) (w : World) (hk : m.x.kind = 2 ∨ m.x.kind = 4) : Calls Tryz.prog 34 #[.agg (mgCs m)] w (RetPart (pM 2 m) true w) := by
  rcases hk with hk | hk
  all_goals
    have HK := Lh hk
    obtain ⟨b0, w0, w1, w2, eb0, ew0, ew1, ew2, hs0, hs1, HX, HR, HY, HB, HX1⟩ := part_pre m w
    have HE := Lh eb0
    have c0 : w1.cell? ⟨b0, 0, none⟩ = some (.int .i64 m.x.kind) := HX1.out.cell 0
    have c1 : w1.cell? ⟨b0, 1, none⟩ = some (.int .i64 m.x.from_) := HX1.out.cell 1
    have c2 : w1.cell? ⟨b0, 2, none⟩ = some (.int .i64 m.x.to_) := HX1.out.cell 2
    rw [hk] at c0
    clear hk
    go_enter Tryz.func34, Tryz.ntmps34
    go_upto_region 9 with (first
        | rw [ew0]
        | rw [ew1]
        | rw [ew2]
        | rw [eb0]
        | rw [hs0]
        | rw [hs1]
        | (refine wpl_store_blk rfl 38 (.tmp 4) (.tmp 11) rfl (b0 + 2) 38 _ (partZ m.x.kind m) rfl (by rw [HK.out]; rfl) HY.out rfl sizeMs6 rfl ?_
           intro w3 hY3 hO3
           have HY3 := hY3
           have HX3 := Lh (hO3.out.blk HX.out (by omega))
           have HR3 := Lh (hO3.out.blk HR.out (by omega))
           have HB3 := Lh (HB.out.trans (hO3.out.below (by omega)))
           have d0 : w3.cell? ⟨b0, 0, none⟩ = some (.int .i64 m.x.kind) := HX3.out.cell 0
           rw [HK.out] at d0
           clear c0 c1 c2 hY3 hO3))
    clear ew0 ew1 ew2 hs0 hs1 eb0 d0
    refine wp_region_late (S0 := fun _ => True) (S := fun w' => Blk w' b0 38 (mgCs m)) 7 8 (by kernel_rfl) rfl ⟨trivial, HX3.out.drew⟩ (fun wd hwd hH => ?_)
    have HYd : Hid (Blk wd (b0 + 2) 38 (partZ m.x.kind m)) := Lh (by rw [hwd]; exact HY3.out.drew)
    have HRd : Hid (Blk wd (b0 + 1) 38 _) := Lh (by rw [hwd]; exact HR3.out.drew)
    have HBd := Lh (show Below b0 w wd from by rw [hwd]; exact HB3.out.drew)
    clear hwd
    refine wpAnyT_take 0 (v := ?_) rfl (by kernel_rfl) (fun _ _ _ h => h) (Or.inl ⟨by rfl, ?_⟩) hH ?_
    rotate_left
    · (intro wx hx; clear hx; go_simp <;> with_reducible rfl)
    try simp only [Act.put, pA9, pZ9, pS9]
    refine wpAnyT_take 1 (v := ?_) rfl (by kernel_rfl) (fun _ _ _ h => h) (Or.inl ⟨by rfl, ?_⟩) hH ?_
    rotate_left
    · (intro wx hx; have c3 : wx.cell? ⟨b0, 3, none⟩ = some (.int .u64 (m.x.term : Int)) := hx.cell 3; clear hx; go_simp <;> with_reducible rfl)
    try simp only [Act.put, pA9, pZ9, pS9]
    refine wpAnyT_take 2 (v := ?_) rfl (by kernel_rfl) (fun _ _ _ h => h) (Or.inl ⟨by rfl, ?_⟩) hH ?_
    rotate_left
    · (intro wx hx; clear hx; go_simp <;> with_reducible rfl)
    try simp only [Act.put, pA9, pZ9, pS9]
    refine wpAnyT_take 3 (v := ?_) rfl (by kernel_rfl) (fun _ _ _ h => h) (Or.inl ⟨by rfl, ?_⟩) hH ?_
    rotate_left
    · (intro wx hx; have c8 : wx.cell? ⟨b0, 8, none⟩ = some (.bool m.x.okf) := hx.cell 8; clear hx; go_simp <;> with_reducible rfl)
    try simp only [Act.put, pA9, pZ9, pS9]
    refine wpAnyT_stay 4 (v := ?_) rfl (by kernel_rfl) (fun _ _ _ h => h) (Or.inl ⟨by rfl, ?_⟩) ⟨hH.1, fun _ => hH.2⟩ ?_
    rotate_left
    · (intro wx hx; clear hx; go_simp <;> with_reducible rfl)
    try simp only [Act.put, pA9, pZ9, pS9]
    refine wpAnyT_one 5 rfl (by kernel_rfl) (fun K hQ => ?_)
    have q1 : wd.cell? ⟨b0 + 2, 3, none⟩ = some (.int .u64 0) := (HYd.out.cell 3).trans (by (repeat (first | rw [setL_lt _ _ _ _ (by decide)] | rw [setL_ge _ _ _ _ (Nat.le_of_ble_eq_true rfl)] | rw [Array.getElem?_setIfInBounds_ne (by decide)])); rfl)
    have q2 := HYd.out.frozen 3
    go_simp
    have hB' := HYd.out.set_ 3 (.int .u64 (m.x.term : Int))
    have hO' := Only.set_ wd (b0 + 2) 3 (.int .u64 (m.x.term : Int))
    obtain ⟨v1, ev⟩ : ∃ v, wd.setCell ⟨b0 + 2, 3, none⟩ (.int .u64 (m.x.term : Int)) = v := ⟨_, rfl⟩
    rw [ev] at hB' hO' ⊢
    clear ev q1 q2
    have HYd := Lh hB'
    have HRd := Lh (hO'.blk HRd.out (by omega))
    have HBd := Lh (HBd.out.trans (hO'.below (by omega)))
    refine hQ.out _ _ (⟨trivial, hO'.blk hH.2 (by omega)⟩) (fun hH2 => ?_)
    clear hQ K hB' hO' hH
    have hH := hH2
    clear hH2
    try simp only [Act.put, pA9, pZ9, pS9]
    refine wpAnyT_stay 6 (v := ?_) rfl (by kernel_rfl) (fun _ _ _ h => h) (Or.inl ⟨by rfl, ?_⟩) ⟨hH.1, fun _ => hH.2⟩ ?_
    rotate_left
    · (intro wx hx; clear hx; go_simp <;> with_reducible rfl)
    try simp only [Act.put, pA9, pZ9, pS9]
    refine wpAnyT_last 7 rfl (by kernel_rfl) (by decide) (fun K hQ => ?_)
    have q1 : v1.cell? ⟨b0 + 2, 8, none⟩ = some (.bool false) := (HYd.out.cell 8).trans (by (repeat (first | rw [setL_lt _ _ _ _ (by decide)] | rw [setL_ge _ _ _ _ (Nat.le_of_ble_eq_true rfl)] | rw [Array.getElem?_setIfInBounds_ne (by decide)])); rfl)
    have q2 := HYd.out.frozen 8
    go_simp
    have hB' := HYd.out.set_ 8 (.bool m.x.okf)
    have hO' := Only.set_ v1 (b0 + 2) 8 (.bool m.x.okf)
    obtain ⟨v2, ev⟩ : ∃ v, v1.setCell ⟨b0 + 2, 8, none⟩ (.bool m.x.okf) = v := ⟨_, rfl⟩
    rw [ev] at hB' hO' ⊢
    clear ev q1 q2
    have HYd := Lh hB'
    have HRd := Lh (hO'.blk HRd.out (by omega))
    have HBd := Lh (HBd.out.trans (hO'.below (by omega)))
    refine hQ.out _ _ (trivial) (fun hH2 => ?_)
    clear hQ K hB' hO' hH
    have hH := hH2
    clear hH2
    try simp only [Act.put, pA9, pZ9, pS9]
    refine wpAnyT_done (by kernel_rfl) ?_ _
    clear hH
    have hfin : (((partZ m.x.kind m).setIfInBounds 3 (.int .u64 (m.x.term : Int))).setIfInBounds 8 (.bool m.x.okf)) = mgCs (pM 2 m) := by (simp only [mgCs, mgA, pM, partZ, setL, List.setIfInBounds_toArray, List.set_cons_zero, List.set_cons_succ]) <;> rfl
    have HF : Hid (Blk _ (b0 + 2) 38 (mgCs (pM 2 m))) := Lh (by have h := HYd.out; rw [hfin] at h; exact h)
    clear hfin
    go_wp2_with (first
      | (refine wpl_load_blk rfl 38 (.tmp 4) rfl (b0 + 2) 38 (mgCs (pM 2 m)) _ rfl HF.out Tryz.underlying38 rfl sizeMs6 ?_)
      | (refine wpl_store_blk rfl 38 (.tmp 2) (.tmp 173) rfl (b0 + 1) 38 _ (mgCs (pM 2 m)) rfl rfl HRd.out rfl sizeMs6 rfl ?_
         intro z9 hB9 hO9))
    exact bodyPost_ret (v := .tuple #[.agg (mgCs (pM 2 m)), .bool true]) (res_ct Tryz.results34 rfl rfl (load_blk hB9.out Tryz.underlying38 rfl sizeMs6)) rfl ⟨rfl, by rw [HE.out]; exact HBd.out.trans (hO9.out.below (by omega))⟩
end Go.Proofs.YtlnneacgllhdhaaGreatDoor
end
