/-
  THE REFERENCE's PART of a message, more kinds. (printed by gen_wirc6.py). (joined out of WirC6d by shake.py)
-/
import Derived.Test.YtlnneacgllhdhaaGreatDoorWpv27
section
namespace Go.Proofs.YtlnneacgllhdhaaGreatDoor
open Go.RowKit OctMath
set_option linter.unusedVariables false
set_option linter.unusedSimpArgs false
set_option maxRecDepth 100000 in
set_option maxHeartbeats 16000000 in
theorem part_12 (m : MG) (w : World) (hk : m.x.kind = 16) : Calls Tryz.prog 34 #[.agg (mgCs m)] w (RetPart (pM 12 m) true w) := by
  rcases hk with hk
  all_goals
    have HK := Lh hk
    obtain ⟨b0, w0, w1, w2, eb0, ew0, ew1, ew2, hs0, hs1, HX, HR, HY, HB, HX1⟩ := part_pre m w
    have HE := Lh eb0
    have c0 : w1.cell? ⟨b0, 0, none⟩ = some (.int .i64 m.x.kind) := HX1.out.cell 0
    have c1 : w1.cell? ⟨b0, 1, none⟩ = some (.int .i64 m.x.from_) := HX1.out.cell 1
    have c2 : w1.cell? ⟨b0, 2, none⟩ = some (.int .i64 m.x.to_) := HX1.out.cell 2
    rw [hk] at c0
    clear hk
    go_enter Tryz.func34, Tryz.ntmps34
    go_upto_region 30 with (first
        | rw [ew0]
        | rw [ew1]
        | rw [ew2]
        | rw [eb0]
        | rw [hs0]
        | rw [hs1]
        | (refine wpl_store_blk rfl 38 (.tmp 4) (.tmp 11) rfl (b0 + 2) 38 _ (partZ m.x.kind m) rfl (by rw [HK.out]; rfl) HY.out rfl sizeMs6 rfl ?_
           intro w3 hY3 hO3
           have HY3 := hY3
           have HX3 := Lh (hO3.out.blk HX.out (by omega))
           have HR3 := Lh (hO3.out.blk HR.out (by omega))
           have HB3 := Lh (HB.out.trans (hO3.out.below (by omega)))
           have d0 : w3.cell? ⟨b0, 0, none⟩ = some (.int .i64 m.x.kind) := HX3.out.cell 0
           rw [HK.out] at d0
           clear c0 c1 c2 hY3 hO3))
    clear ew0 ew1 ew2 hs0 hs1 eb0 d0
    refine wp_region_late (S0 := fun _ => True) (S := fun w' => Blk w' b0 38 (mgCs m)) 19 20 (by kernel_rfl) rfl ⟨trivial, HX3.out.drew⟩ (fun wd hwd hH => ?_)
    have HYd : Hid (Blk wd (b0 + 2) 38 (partZ m.x.kind m)) := Lh (by rw [hwd]; exact HY3.out.drew)
    have HRd : Hid (Blk wd (b0 + 1) 38 _) := Lh (by rw [hwd]; exact HR3.out.drew)
    have HBd := Lh (show Below b0 w wd from by rw [hwd]; exact HB3.out.drew)
    clear hwd
    refine wpAnyT_take 0 (v := ?_) rfl (by kernel_rfl) (fun _ _ _ h => h) (Or.inl ⟨by rfl, ?_⟩) hH ?_
    rotate_left
    · (intro wx hx; clear hx; go_simp <;> with_reducible rfl)
    try simp only [Act.put, pA9, pZ9, pS9]
    refine wpAnyT_take 1 (v := ?_) rfl (by kernel_rfl) (fun _ _ _ h => h) (Or.inl ⟨by rfl, ?_⟩) hH ?_
    rotate_left
    · (intro wx hx; have c21 : wx.cell? ⟨b0, 21, none⟩ = some (.int .u64 (m.x.client : Int)) := hx.cell 21; clear hx; go_simp <;> with_reducible rfl)
    try simp only [Act.put, pA9, pZ9, pS9]
    refine wpAnyT_take 2 (v := ?_) rfl (by kernel_rfl) (fun _ _ _ h => h) (Or.inl ⟨by rfl, ?_⟩) hH ?_
    rotate_left
    · (intro wx hx; clear hx; go_simp <;> with_reducible rfl)
    try simp only [Act.put, pA9, pZ9, pS9]
    refine wpAnyT_take 3 (v := ?_) rfl (by kernel_rfl) (fun _ _ _ h => h) (Or.inl ⟨by rfl, ?_⟩) hH ?_
    rotate_left
    · (intro wx hx; have c22 : wx.cell? ⟨b0, 22, none⟩ = some (.int .u64 (m.x.seq : Int)) := hx.cell 22; clear hx; go_simp <;> with_reducible rfl)
    try simp only [Act.put, pA9, pZ9, pS9]
    refine wpAnyT_take 4 (v := ?_) rfl (by kernel_rfl) (fun _ _ _ h => h) (Or.inl ⟨by rfl, ?_⟩) hH ?_
    rotate_left
    · (intro wx hx; clear hx; go_simp <;> with_reducible rfl)
    try simp only [Act.put, pA9, pZ9, pS9]
    refine wpAnyT_take 5 (v := ?_) rfl (by kernel_rfl) (fun _ _ _ h => h) (Or.inl ⟨by rfl, ?_⟩) hH ?_
    rotate_left
    · (intro wx hx; have c23 : wx.cell? ⟨b0, 23, none⟩ = some (.int .i64 m.x.op) := hx.cell 23; clear hx; go_simp <;> with_reducible rfl)
    try simp only [Act.put, pA9, pZ9, pS9]
    refine wpAnyT_take 6 (v := ?_) rfl (by kernel_rfl) (fun _ _ _ h => h) (Or.inl ⟨by rfl, ?_⟩) hH ?_
    rotate_left
    · (intro wx hx; clear hx; go_simp <;> with_reducible rfl)
    try simp only [Act.put, pA9, pZ9, pS9]
    refine wpAnyT_take 7 (v := ?_) rfl (by kernel_rfl) (fun _ _ _ h => h) (Or.inl ⟨by rfl, ?_⟩) hH ?_
    rotate_left
    · (intro wx hx; have c24 : wx.cell? ⟨b0, 24, none⟩ = some (.string (strOf m.x.key)) := hx.cell 24; clear hx; go_simp <;> with_reducible rfl)
    try simp only [Act.put, pA9, pZ9, pS9]
    refine wpAnyT_take 8 (v := ?_) rfl (by kernel_rfl) (fun _ _ _ h => h) (Or.inl ⟨by rfl, ?_⟩) hH ?_
    rotate_left
    · (intro wx hx; clear hx; go_simp <;> with_reducible rfl)
    try simp only [Act.put, pA9, pZ9, pS9]
    refine wpAnyT_take 9 (v := ?_) rfl (by kernel_rfl) (fun _ _ _ h => h) (Or.inl ⟨by rfl, ?_⟩) hH ?_
    rotate_left
    · (intro wx hx; have c20 : wx.cell? ⟨b0, 20, none⟩ = some (.slice m.Ad m.x.data.length m.cd) := hx.cell 20; clear hx; go_simp <;> with_reducible rfl)
    try simp only [Act.put, pA9, pZ9, pS9]
    refine wpAnyT_stay 10 (v := ?_) rfl (by kernel_rfl) (fun _ _ _ h => h) (Or.inl ⟨by rfl, ?_⟩) ⟨hH.1, fun _ => hH.2⟩ ?_
    rotate_left
    · (intro wx hx; clear hx; go_simp <;> with_reducible rfl)
    try simp only [Act.put, pA9, pZ9, pS9]
    refine wpAnyT_one 11 rfl (by kernel_rfl) (fun K hQ => ?_)
    have q1 : wd.cell? ⟨b0 + 2, 21, none⟩ = some (.int .u64 0) := (HYd.out.cell 21).trans (by (repeat (first | rw [setL_lt _ _ _ _ (by decide)] | rw [setL_ge _ _ _ _ (Nat.le_of_ble_eq_true rfl)] | rw [Array.getElem?_setIfInBounds_ne (by decide)])); rfl)
    have q2 := HYd.out.frozen 21
    go_simp
    have hB' := HYd.out.set_ 21 (.int .u64 (m.x.client : Int))
    have hO' := Only.set_ wd (b0 + 2) 21 (.int .u64 (m.x.client : Int))
    obtain ⟨v1, ev⟩ : ∃ v, wd.setCell ⟨b0 + 2, 21, none⟩ (.int .u64 (m.x.client : Int)) = v := ⟨_, rfl⟩
    rw [ev] at hB' hO' ⊢
    clear ev q1 q2
    have HYd := Lh hB'
    have HRd := Lh (hO'.blk HRd.out (by omega))
    have HBd := Lh (HBd.out.trans (hO'.below (by omega)))
    refine hQ.out _ _ (⟨trivial, hO'.blk hH.2 (by omega)⟩) (fun hH2 => ?_)
    clear hQ K hB' hO' hH
    have hH := hH2
    clear hH2
    try simp only [Act.put, pA9, pZ9, pS9]
    refine wpAnyT_stay 12 (v := ?_) rfl (by kernel_rfl) (fun _ _ _ h => h) (Or.inl ⟨by rfl, ?_⟩) ⟨hH.1, fun _ => hH.2⟩ ?_
    rotate_left
    · (intro wx hx; clear hx; go_simp <;> with_reducible rfl)
    try simp only [Act.put, pA9, pZ9, pS9]
    refine wpAnyT_one 13 rfl (by kernel_rfl) (fun K hQ => ?_)
    have q1 : v1.cell? ⟨b0 + 2, 22, none⟩ = some (.int .u64 0) := (HYd.out.cell 22).trans (by (repeat (first | rw [setL_lt _ _ _ _ (by decide)] | rw [setL_ge _ _ _ _ (Nat.le_of_ble_eq_true rfl)] | rw [Array.getElem?_setIfInBounds_ne (by decide)])); rfl)
    have q2 := HYd.out.frozen 22
    go_simp
    have hB' := HYd.out.set_ 22 (.int .u64 (m.x.seq : Int))
    have hO' := Only.set_ v1 (b0 + 2) 22 (.int .u64 (m.x.seq : Int))
    obtain ⟨v2, ev⟩ : ∃ v, v1.setCell ⟨b0 + 2, 22, none⟩ (.int .u64 (m.x.seq : Int)) = v := ⟨_, rfl⟩
    rw [ev] at hB' hO' ⊢
    clear ev q1 q2
    have HYd := Lh hB'
    have HRd := Lh (hO'.blk HRd.out (by omega))
    have HBd := Lh (HBd.out.trans (hO'.below (by omega)))
    refine hQ.out _ _ (⟨trivial, hO'.blk hH.2 (by omega)⟩) (fun hH2 => ?_)
    clear hQ K hB' hO' hH
    have hH := hH2
    clear hH2
    try simp only [Act.put, pA9, pZ9, pS9]
    refine wpAnyT_stay 14 (v := ?_) rfl (by kernel_rfl) (fun _ _ _ h => h) (Or.inl ⟨by rfl, ?_⟩) ⟨hH.1, fun _ => hH.2⟩ ?_
    rotate_left
    · (intro wx hx; clear hx; go_simp <;> with_reducible rfl)
    try simp only [Act.put, pA9, pZ9, pS9]
    refine wpAnyT_one 15 rfl (by kernel_rfl) (fun K hQ => ?_)
    have q1 : v2.cell? ⟨b0 + 2, 23, none⟩ = some (.int .i64 0) := (HYd.out.cell 23).trans (by (repeat (first | rw [setL_lt _ _ _ _ (by decide)] | rw [setL_ge _ _ _ _ (Nat.le_of_ble_eq_true rfl)] | rw [Array.getElem?_setIfInBounds_ne (by decide)])); rfl)
    have q2 := HYd.out.frozen 23
    go_simp
    have hB' := HYd.out.set_ 23 (.int .i64 m.x.op)
    have hO' := Only.set_ v2 (b0 + 2) 23 (.int .i64 m.x.op)
    obtain ⟨v3, ev⟩ : ∃ v, v2.setCell ⟨b0 + 2, 23, none⟩ (.int .i64 m.x.op) = v := ⟨_, rfl⟩
    rw [ev] at hB' hO' ⊢
    clear ev q1 q2
    have HYd := Lh hB'
    have HRd := Lh (hO'.blk HRd.out (by omega))
    have HBd := Lh (HBd.out.trans (hO'.below (by omega)))
    refine hQ.out _ _ (⟨trivial, hO'.blk hH.2 (by omega)⟩) (fun hH2 => ?_)
    clear hQ K hB' hO' hH
    have hH := hH2
    clear hH2
    try simp only [Act.put, pA9, pZ9, pS9]
    refine wpAnyT_stay 16 (v := ?_) rfl (by kernel_rfl) (fun _ _ _ h => h) (Or.inl ⟨by rfl, ?_⟩) ⟨hH.1, fun _ => hH.2⟩ ?_
    rotate_left
    · (intro wx hx; clear hx; go_simp <;> with_reducible rfl)
    try simp only [Act.put, pA9, pZ9, pS9]
    refine wpAnyT_one 17 rfl (by kernel_rfl) (fun K hQ => ?_)
    have q1 : v3.cell? ⟨b0 + 2, 24, none⟩ = some (.string ⟨#[]⟩) := (HYd.out.cell 24).trans (by (repeat (first | rw [setL_lt _ _ _ _ (by decide)] | rw [setL_ge _ _ _ _ (Nat.le_of_ble_eq_true rfl)] | rw [Array.getElem?_setIfInBounds_ne (by decide)])); rfl)
    have q2 := HYd.out.frozen 24
    go_simp
    have hB' := HYd.out.set_ 24 (.string (strOf m.x.key))
    have hO' := Only.set_ v3 (b0 + 2) 24 (.string (strOf m.x.key))
    obtain ⟨v4, ev⟩ : ∃ v, v3.setCell ⟨b0 + 2, 24, none⟩ (.string (strOf m.x.key)) = v := ⟨_, rfl⟩
    rw [ev] at hB' hO' ⊢
    clear ev q1 q2
    have HYd := Lh hB'
    have HRd := Lh (hO'.blk HRd.out (by omega))
    have HBd := Lh (HBd.out.trans (hO'.below (by omega)))
    refine hQ.out _ _ (⟨trivial, hO'.blk hH.2 (by omega)⟩) (fun hH2 => ?_)
    clear hQ K hB' hO' hH
    have hH := hH2
    clear hH2
    try simp only [Act.put, pA9, pZ9, pS9]
    refine wpAnyT_stay 18 (v := ?_) rfl (by kernel_rfl) (fun _ _ _ h => h) (Or.inl ⟨by rfl, ?_⟩) ⟨hH.1, fun _ => hH.2⟩ ?_
    rotate_left
    · (intro wx hx; clear hx; go_simp <;> with_reducible rfl)
    try simp only [Act.put, pA9, pZ9, pS9]
    refine wpAnyT_last 19 rfl (by kernel_rfl) (by decide) (fun K hQ => ?_)
    have q1 : v4.cell? ⟨b0 + 2, 20, none⟩ = some (.slice none 0 0) := (HYd.out.cell 20).trans (by (repeat (first | rw [setL_lt _ _ _ _ (by decide)] | rw [setL_ge _ _ _ _ (Nat.le_of_ble_eq_true rfl)] | rw [Array.getElem?_setIfInBounds_ne (by decide)])); rfl)
    have q2 := HYd.out.frozen 20
    go_simp
    have hB' := HYd.out.set_ 20 (.slice m.Ad m.x.data.length m.cd)
    have hO' := Only.set_ v4 (b0 + 2) 20 (.slice m.Ad m.x.data.length m.cd)
    obtain ⟨v5, ev⟩ : ∃ v, v4.setCell ⟨b0 + 2, 20, none⟩ (.slice m.Ad m.x.data.length m.cd) = v := ⟨_, rfl⟩
    rw [ev] at hB' hO' ⊢
    clear ev q1 q2
    have HYd := Lh hB'
    have HRd := Lh (hO'.blk HRd.out (by omega))
    have HBd := Lh (HBd.out.trans (hO'.below (by omega)))
    refine hQ.out _ _ (trivial) (fun hH2 => ?_)
    clear hQ K hB' hO' hH
    have hH := hH2
    clear hH2
    try simp only [Act.put, pA9, pZ9, pS9]
    refine wpAnyT_done (by kernel_rfl) ?_ _
    clear hH
    have hfin : ((((((partZ m.x.kind m).setIfInBounds 21 (.int .u64 (m.x.client : Int))).setIfInBounds 22 (.int .u64 (m.x.seq : Int))).setIfInBounds 23 (.int .i64 m.x.op)).setIfInBounds 24 (.string (strOf m.x.key))).setIfInBounds 20 (.slice m.Ad m.x.data.length m.cd)) = mgCs (pM 12 m) := by (simp only [mgCs, mgA, pM, partZ, setL, List.setIfInBounds_toArray, List.set_cons_zero, List.set_cons_succ]) <;> rfl
    have HF : Hid (Blk _ (b0 + 2) 38 (mgCs (pM 12 m))) := Lh (by have h := HYd.out; rw [hfin] at h; exact h)
    clear hfin
    go_wp2_with (first
      | (refine wpl_load_blk rfl 38 (.tmp 4) rfl (b0 + 2) 38 (mgCs (pM 12 m)) _ rfl HF.out Tryz.underlying38 rfl sizeMs6 ?_)
      | (refine wpl_store_blk rfl 38 (.tmp 2) (.tmp 173) rfl (b0 + 1) 38 _ (mgCs (pM 12 m)) rfl rfl HRd.out rfl sizeMs6 rfl ?_
         intro z9 hB9 hO9))
    exact bodyPost_ret (v := .tuple #[.agg (mgCs (pM 12 m)), .bool true]) (res_ct Tryz.results34 rfl rfl (load_blk hB9.out Tryz.underlying38 rfl sizeMs6)) rfl ⟨rfl, by rw [HE.out]; exact HBd.out.trans (hO9.out.below (by omega))⟩
set_option maxRecDepth 100000 in
set_option maxHeartbeats 16000000 in
theorem part_13 (m : MG) (w : World) (hk : m.x.kind = 17) : Calls Tryz.prog 34 #[.agg (mgCs m)] w (RetPart (pM 13 m) true w) := by
  rcases hk with hk
  all_goals
    have HK := Lh hk
    obtain ⟨b0, w0, w1, w2, eb0, ew0, ew1, ew2, hs0, hs1, HX, HR, HY, HB, HX1⟩ := part_pre m w
    have HE := Lh eb0
    have c0 : w1.cell? ⟨b0, 0, none⟩ = some (.int .i64 m.x.kind) := HX1.out.cell 0
    have c1 : w1.cell? ⟨b0, 1, none⟩ = some (.int .i64 m.x.from_) := HX1.out.cell 1
    have c2 : w1.cell? ⟨b0, 2, none⟩ = some (.int .i64 m.x.to_) := HX1.out.cell 2
    rw [hk] at c0
    clear hk
    go_enter Tryz.func34, Tryz.ntmps34
    go_upto_region 32 with (first
        | rw [ew0]
        | rw [ew1]
        | rw [ew2]
        | rw [eb0]
        | rw [hs0]
        | rw [hs1]
        | (refine wpl_store_blk rfl 38 (.tmp 4) (.tmp 11) rfl (b0 + 2) 38 _ (partZ m.x.kind m) rfl (by rw [HK.out]; rfl) HY.out rfl sizeMs6 rfl ?_
           intro w3 hY3 hO3
           have HY3 := hY3
           have HX3 := Lh (hO3.out.blk HX.out (by omega))
           have HR3 := Lh (hO3.out.blk HR.out (by omega))
           have HB3 := Lh (HB.out.trans (hO3.out.below (by omega)))
           have d0 : w3.cell? ⟨b0, 0, none⟩ = some (.int .i64 m.x.kind) := HX3.out.cell 0
           rw [HK.out] at d0
           clear c0 c1 c2 hY3 hO3))
    clear ew0 ew1 ew2 hs0 hs1 eb0 d0
    refine wp_region_late (S0 := fun _ => True) (S := fun w' => Blk w' b0 38 (mgCs m)) 23 24 (by kernel_rfl) rfl ⟨trivial, HX3.out.drew⟩ (fun wd hwd hH => ?_)
    have HYd : Hid (Blk wd (b0 + 2) 38 (partZ m.x.kind m)) := Lh (by rw [hwd]; exact HY3.out.drew)
    have HRd : Hid (Blk wd (b0 + 1) 38 _) := Lh (by rw [hwd]; exact HR3.out.drew)
    have HBd := Lh (show Below b0 w wd from by rw [hwd]; exact HB3.out.drew)
    clear hwd
    refine wpAnyT_take 0 (v := ?_) rfl (by kernel_rfl) (fun _ _ _ h => h) (Or.inl ⟨by rfl, ?_⟩) hH ?_
    rotate_left
    · (intro wx hx; clear hx; go_simp <;> with_reducible rfl)
    try simp only [Act.put, pA9, pZ9, pS9]
    refine wpAnyT_take 1 (v := ?_) rfl (by kernel_rfl) (fun _ _ _ h => h) (Or.inl ⟨by rfl, ?_⟩) hH ?_
    rotate_left
    · (intro wx hx; have c21 : wx.cell? ⟨b0, 21, none⟩ = some (.int .u64 (m.x.client : Int)) := hx.cell 21; clear hx; go_simp <;> with_reducible rfl)
    try simp only [Act.put, pA9, pZ9, pS9]
    refine wpAnyT_take 2 (v := ?_) rfl (by kernel_rfl) (fun _ _ _ h => h) (Or.inl ⟨by rfl, ?_⟩) hH ?_
    rotate_left
    · (intro wx hx; clear hx; go_simp <;> with_reducible rfl)
    try simp only [Act.put, pA9, pZ9, pS9]
    refine wpAnyT_take 3 (v := ?_) rfl (by kernel_rfl) (fun _ _ _ h => h) (Or.inl ⟨by rfl, ?_⟩) hH ?_
    rotate_left
    · (intro wx hx; have c22 : wx.cell? ⟨b0, 22, none⟩ = some (.int .u64 (m.x.seq : Int)) := hx.cell 22; clear hx; go_simp <;> with_reducible rfl)
    try simp only [Act.put, pA9, pZ9, pS9]
    refine wpAnyT_take 4 (v := ?_) rfl (by kernel_rfl) (fun _ _ _ h => h) (Or.inl ⟨by rfl, ?_⟩) hH ?_
    rotate_left
    · (intro wx hx; clear hx; go_simp <;> with_reducible rfl)
    try simp only [Act.put, pA9, pZ9, pS9]
    refine wpAnyT_take 5 (v := ?_) rfl (by kernel_rfl) (fun _ _ _ h => h) (Or.inl ⟨by rfl, ?_⟩) hH ?_
    rotate_left
    · (intro wx hx; have c25 : wx.cell? ⟨b0, 25, none⟩ = some (.int .i64 m.x.code) := hx.cell 25; clear hx; go_simp <;> with_reducible rfl)
    try simp only [Act.put, pA9, pZ9, pS9]
    refine wpAnyT_take 6 (v := ?_) rfl (by kernel_rfl) (fun _ _ _ h => h) (Or.inl ⟨by rfl, ?_⟩) hH ?_
    rotate_left
    · (intro wx hx; clear hx; go_simp <;> with_reducible rfl)
    try simp only [Act.put, pA9, pZ9, pS9]
    refine wpAnyT_take 7 (v := ?_) rfl (by kernel_rfl) (fun _ _ _ h => h) (Or.inl ⟨by rfl, ?_⟩) hH ?_
    rotate_left
    · (intro wx hx; have c20 : wx.cell? ⟨b0, 20, none⟩ = some (.slice m.Ad m.x.data.length m.cd) := hx.cell 20; clear hx; go_simp <;> with_reducible rfl)
    try simp only [Act.put, pA9, pZ9, pS9]
    refine wpAnyT_take 8 (v := ?_) rfl (by kernel_rfl) (fun _ _ _ h => h) (Or.inl ⟨by rfl, ?_⟩) hH ?_
    rotate_left
    · (intro wx hx; clear hx; go_simp <;> with_reducible rfl)
    try simp only [Act.put, pA9, pZ9, pS9]
    refine wpAnyT_take 9 (v := ?_) rfl (by kernel_rfl) (fun _ _ _ h => h) (Or.inl ⟨by rfl, ?_⟩) hH ?_
    rotate_left
    · (intro wx hx; have c26 : wx.cell? ⟨b0, 26, none⟩ = some (.slice m.An m.x.names.length m.cn) := hx.cell 26; clear hx; go_simp <;> with_reducible rfl)
    try simp only [Act.put, pA9, pZ9, pS9]
    refine wpAnyT_take 10 (v := ?_) rfl (by kernel_rfl) (fun _ _ _ h => h) (Or.inl ⟨by rfl, ?_⟩) hH ?_
    rotate_left
    · (intro wx hx; clear hx; go_simp <;> with_reducible rfl)
    try simp only [Act.put, pA9, pZ9, pS9]
    refine wpAnyT_take 11 (v := ?_) rfl (by kernel_rfl) (fun _ _ _ h => h) (Or.inl ⟨by rfl, ?_⟩) hH ?_
    rotate_left
    · (intro wx hx; have c7 : wx.cell? ⟨b0, 7, none⟩ = some (.int .u64 (m.x.ctx : Int)) := hx.cell 7; clear hx; go_simp <;> with_reducible rfl)
    try simp only [Act.put, pA9, pZ9, pS9]
    refine wpAnyT_stay 12 (v := ?_) rfl (by kernel_rfl) (fun _ _ _ h => h) (Or.inl ⟨by rfl, ?_⟩) ⟨hH.1, fun _ => hH.2⟩ ?_
    rotate_left
    · (intro wx hx; clear hx; go_simp <;> with_reducible rfl)
    try simp only [Act.put, pA9, pZ9, pS9]
    refine wpAnyT_one 13 rfl (by kernel_rfl) (fun K hQ => ?_)
    have q1 : wd.cell? ⟨b0 + 2, 21, none⟩ = some (.int .u64 0) := (HYd.out.cell 21).trans (by (repeat (first | rw [setL_lt _ _ _ _ (by decide)] | rw [setL_ge _ _ _ _ (Nat.le_of_ble_eq_true rfl)] | rw [Array.getElem?_setIfInBounds_ne (by decide)])); rfl)
    have q2 := HYd.out.frozen 21
    go_simp
    have hB' := HYd.out.set_ 21 (.int .u64 (m.x.client : Int))
    have hO' := Only.set_ wd (b0 + 2) 21 (.int .u64 (m.x.client : Int))
    obtain ⟨v1, ev⟩ : ∃ v, wd.setCell ⟨b0 + 2, 21, none⟩ (.int .u64 (m.x.client : Int)) = v := ⟨_, rfl⟩
    rw [ev] at hB' hO' ⊢
    clear ev q1 q2
    have HYd := Lh hB'
    have HRd := Lh (hO'.blk HRd.out (by omega))
    have HBd := Lh (HBd.out.trans (hO'.below (by omega)))
    refine hQ.out _ _ (⟨trivial, hO'.blk hH.2 (by omega)⟩) (fun hH2 => ?_)
    clear hQ K hB' hO' hH
    have hH := hH2
    clear hH2
    try simp only [Act.put, pA9, pZ9, pS9]
    refine wpAnyT_stay 14 (v := ?_) rfl (by kernel_rfl) (fun _ _ _ h => h) (Or.inl ⟨by rfl, ?_⟩) ⟨hH.1, fun _ => hH.2⟩ ?_
    rotate_left
    · (intro wx hx; clear hx; go_simp <;> with_reducible rfl)
    try simp only [Act.put, pA9, pZ9, pS9]
    refine wpAnyT_one 15 rfl (by kernel_rfl) (fun K hQ => ?_)
    have q1 : v1.cell? ⟨b0 + 2, 22, none⟩ = some (.int .u64 0) := (HYd.out.cell 22).trans (by (repeat (first | rw [setL_lt _ _ _ _ (by decide)] | rw [setL_ge _ _ _ _ (Nat.le_of_ble_eq_true rfl)] | rw [Array.getElem?_setIfInBounds_ne (by decide)])); rfl)
    have q2 := HYd.out.frozen 22
    go_simp
    have hB' := HYd.out.set_ 22 (.int .u64 (m.x.seq : Int))
    have hO' := Only.set_ v1 (b0 + 2) 22 (.int .u64 (m.x.seq : Int))
    obtain ⟨v2, ev⟩ : ∃ v, v1.setCell ⟨b0 + 2, 22, none⟩ (.int .u64 (m.x.seq : Int)) = v := ⟨_, rfl⟩
    rw [ev] at hB' hO' ⊢
    clear ev q1 q2
    have HYd := Lh hB'
    have HRd := Lh (hO'.blk HRd.out (by omega))
    have HBd := Lh (HBd.out.trans (hO'.below (by omega)))
    refine hQ.out _ _ (⟨trivial, hO'.blk hH.2 (by omega)⟩) (fun hH2 => ?_)
    clear hQ K hB' hO' hH
    have hH := hH2
    clear hH2
    try simp only [Act.put, pA9, pZ9, pS9]
    refine wpAnyT_stay 16 (v := ?_) rfl (by kernel_rfl) (fun _ _ _ h => h) (Or.inl ⟨by rfl, ?_⟩) ⟨hH.1, fun _ => hH.2⟩ ?_
    rotate_left
    · (intro wx hx; clear hx; go_simp <;> with_reducible rfl)
    try simp only [Act.put, pA9, pZ9, pS9]
    refine wpAnyT_one 17 rfl (by kernel_rfl) (fun K hQ => ?_)
    have q1 : v2.cell? ⟨b0 + 2, 25, none⟩ = some (.int .i64 0) := (HYd.out.cell 25).trans (by (repeat (first | rw [setL_lt _ _ _ _ (by decide)] | rw [setL_ge _ _ _ _ (Nat.le_of_ble_eq_true rfl)] | rw [Array.getElem?_setIfInBounds_ne (by decide)])); rfl)
    have q2 := HYd.out.frozen 25
    go_simp
    have hB' := HYd.out.set_ 25 (.int .i64 m.x.code)
    have hO' := Only.set_ v2 (b0 + 2) 25 (.int .i64 m.x.code)
    obtain ⟨v3, ev⟩ : ∃ v, v2.setCell ⟨b0 + 2, 25, none⟩ (.int .i64 m.x.code) = v := ⟨_, rfl⟩
    rw [ev] at hB' hO' ⊢
    clear ev q1 q2
    have HYd := Lh hB'
    have HRd := Lh (hO'.blk HRd.out (by omega))
    have HBd := Lh (HBd.out.trans (hO'.below (by omega)))
    refine hQ.out _ _ (⟨trivial, hO'.blk hH.2 (by omega)⟩) (fun hH2 => ?_)
    clear hQ K hB' hO' hH
    have hH := hH2
    clear hH2
    try simp only [Act.put, pA9, pZ9, pS9]
    refine wpAnyT_stay 18 (v := ?_) rfl (by kernel_rfl) (fun _ _ _ h => h) (Or.inl ⟨by rfl, ?_⟩) ⟨hH.1, fun _ => hH.2⟩ ?_
    rotate_left
    · (intro wx hx; clear hx; go_simp <;> with_reducible rfl)
    try simp only [Act.put, pA9, pZ9, pS9]
    refine wpAnyT_one 19 rfl (by kernel_rfl) (fun K hQ => ?_)
    have q1 : v3.cell? ⟨b0 + 2, 20, none⟩ = some (.slice none 0 0) := (HYd.out.cell 20).trans (by (repeat (first | rw [setL_lt _ _ _ _ (by decide)] | rw [setL_ge _ _ _ _ (Nat.le_of_ble_eq_true rfl)] | rw [Array.getElem?_setIfInBounds_ne (by decide)])); rfl)
    have q2 := HYd.out.frozen 20
    go_simp
    have hB' := HYd.out.set_ 20 (.slice m.Ad m.x.data.length m.cd)
    have hO' := Only.set_ v3 (b0 + 2) 20 (.slice m.Ad m.x.data.length m.cd)
    obtain ⟨v4, ev⟩ : ∃ v, v3.setCell ⟨b0 + 2, 20, none⟩ (.slice m.Ad m.x.data.length m.cd) = v := ⟨_, rfl⟩
    rw [ev] at hB' hO' ⊢
    clear ev q1 q2
    have HYd := Lh hB'
    have HRd := Lh (hO'.blk HRd.out (by omega))
    have HBd := Lh (HBd.out.trans (hO'.below (by omega)))
    refine hQ.out _ _ (⟨trivial, hO'.blk hH.2 (by omega)⟩) (fun hH2 => ?_)
    clear hQ K hB' hO' hH
    have hH := hH2
    clear hH2
    try simp only [Act.put, pA9, pZ9, pS9]
    refine wpAnyT_stay 20 (v := ?_) rfl (by kernel_rfl) (fun _ _ _ h => h) (Or.inl ⟨by rfl, ?_⟩) ⟨hH.1, fun _ => hH.2⟩ ?_
    rotate_left
    · (intro wx hx; clear hx; go_simp <;> with_reducible rfl)
    try simp only [Act.put, pA9, pZ9, pS9]
    refine wpAnyT_one 21 rfl (by kernel_rfl) (fun K hQ => ?_)
    have q1 : v4.cell? ⟨b0 + 2, 26, none⟩ = some (.slice none 0 0) := (HYd.out.cell 26).trans (by (repeat (first | rw [setL_lt _ _ _ _ (by decide)] | rw [setL_ge _ _ _ _ (Nat.le_of_ble_eq_true rfl)] | rw [Array.getElem?_setIfInBounds_ne (by decide)])); rfl)
    have q2 := HYd.out.frozen 26
    go_simp
    have hB' := HYd.out.set_ 26 (.slice m.An m.x.names.length m.cn)
    have hO' := Only.set_ v4 (b0 + 2) 26 (.slice m.An m.x.names.length m.cn)
    obtain ⟨v5, ev⟩ : ∃ v, v4.setCell ⟨b0 + 2, 26, none⟩ (.slice m.An m.x.names.length m.cn) = v := ⟨_, rfl⟩
    rw [ev] at hB' hO' ⊢
    clear ev q1 q2
    have HYd := Lh hB'
    have HRd := Lh (hO'.blk HRd.out (by omega))
    have HBd := Lh (HBd.out.trans (hO'.below (by omega)))
    refine hQ.out _ _ (⟨trivial, hO'.blk hH.2 (by omega)⟩) (fun hH2 => ?_)
    clear hQ K hB' hO' hH
    have hH := hH2
    clear hH2
    try simp only [Act.put, pA9, pZ9, pS9]
    refine wpAnyT_stay 22 (v := ?_) rfl (by kernel_rfl) (fun _ _ _ h => h) (Or.inl ⟨by rfl, ?_⟩) ⟨hH.1, fun _ => hH.2⟩ ?_
    rotate_left
    · (intro wx hx; clear hx; go_simp <;> with_reducible rfl)
    try simp only [Act.put, pA9, pZ9, pS9]
    refine wpAnyT_last 23 rfl (by kernel_rfl) (by decide) (fun K hQ => ?_)
    have q1 : v5.cell? ⟨b0 + 2, 7, none⟩ = some (.int .u64 0) := (HYd.out.cell 7).trans (by (repeat (first | rw [setL_lt _ _ _ _ (by decide)] | rw [setL_ge _ _ _ _ (Nat.le_of_ble_eq_true rfl)] | rw [Array.getElem?_setIfInBounds_ne (by decide)])); rfl)
    have q2 := HYd.out.frozen 7
    go_simp
    have hB' := HYd.out.set_ 7 (.int .u64 (m.x.ctx : Int))
    have hO' := Only.set_ v5 (b0 + 2) 7 (.int .u64 (m.x.ctx : Int))
    obtain ⟨v6, ev⟩ : ∃ v, v5.setCell ⟨b0 + 2, 7, none⟩ (.int .u64 (m.x.ctx : Int)) = v := ⟨_, rfl⟩
    rw [ev] at hB' hO' ⊢
    clear ev q1 q2
    have HYd := Lh hB'
    have HRd := Lh (hO'.blk HRd.out (by omega))
    have HBd := Lh (HBd.out.trans (hO'.below (by omega)))
    refine hQ.out _ _ (trivial) (fun hH2 => ?_)
    clear hQ K hB' hO' hH
    have hH := hH2
    clear hH2
    try simp only [Act.put, pA9, pZ9, pS9]
    refine wpAnyT_done (by kernel_rfl) ?_ _
    clear hH
    have hfin : (((((((partZ m.x.kind m).setIfInBounds 21 (.int .u64 (m.x.client : Int))).setIfInBounds 22 (.int .u64 (m.x.seq : Int))).setIfInBounds 25 (.int .i64 m.x.code)).setIfInBounds 20 (.slice m.Ad m.x.data.length m.cd)).setIfInBounds 26 (.slice m.An m.x.names.length m.cn)).setIfInBounds 7 (.int .u64 (m.x.ctx : Int))) = mgCs (pM 13 m) := by (simp only [mgCs, mgA, pM, partZ, setL, List.setIfInBounds_toArray, List.set_cons_zero, List.set_cons_succ]) <;> rfl
    have HF : Hid (Blk _ (b0 + 2) 38 (mgCs (pM 13 m))) := Lh (by have h := HYd.out; rw [hfin] at h; exact h)
    clear hfin
    go_wp2_with (first
      | (refine wpl_load_blk rfl 38 (.tmp 4) rfl (b0 + 2) 38 (mgCs (pM 13 m)) _ rfl HF.out Tryz.underlying38 rfl sizeMs6 ?_)
      | (refine wpl_store_blk rfl 38 (.tmp 2) (.tmp 173) rfl (b0 + 1) 38 _ (mgCs (pM 13 m)) rfl rfl HRd.out rfl sizeMs6 rfl ?_
         intro z9 hB9 hO9))
    exact bodyPost_ret (v := .tuple #[.agg (mgCs (pM 13 m)), .bool true]) (res_ct Tryz.results34 rfl rfl (load_blk hB9.out Tryz.underlying38 rfl sizeMs6)) rfl ⟨rfl, by rw [HE.out]; exact HBd.out.trans (hO9.out.below (by omega))⟩
end Go.Proofs.YtlnneacgllhdhaaGreatDoor
end
