/-
  MetaCounts is true: behind each of at most 150 commands, each chunk that a write was given is an object's, an intent's, waste, or gone. For every input.
  (printed by gen_mecounts.py)
-/
import Derived.Test.YtdoneomahlfkbaaGreatMcm26
import Derived.Test.YtdoneomahlfkbaaGreatMcm27
namespace Go.Proofs.YtdoneomahlfkbaaGreat
open Go.RowKit OctMath StrMath PlMath
set_option linter.unusedVariables false
set_option linter.unusedSimpArgs false
set_option maxRecDepth 100000 in
set_option maxHeartbeats 16000000 in
theorem counts_any (A : Option Addr) (n cap : Nat) (cms : List CM) (w : World) (HRD : Hid (Reads w w.heap.size 16 A n (cms.flatMap cmL))) (HLN : Hid (cms.length = n)) (HCW : Hid (∀ m ∈ cms, CmW w m)) :
    Calls Tryz.prog 3 #[.slice A n cap] w fun e w' => e = .returned (.bool true) ∧ Below w.heap.size w w' := by
  have HHD := Lh (fun W => heads_any W)
  by_cases hn : n ≤ 150
  · have d1 : decide ((n : Int) > 150) = false := decide_eq_false (by omega)
    have d2 : decide (150 < (n : Int)) = false := decide_eq_false (by omega)
    have d3 : decide (150 < n) = false := decide_eq_false (by omega)
    have HRUN := Lh (run_any none 0 0 [] w (Lh ⟨rfl, fun h => absurd h (Nat.lt_irrefl 0)⟩) (Lh rfl) (Lh fun m hm => by cases hm) (by omega))
    go_enter Tryz.func3, Tryz.ntmps3
    go_wp2_with (fail)
    refine HRUN.out.mono ?_
    rintro e w2 ⟨m0, rfl, hin, hrun, hm0, hb⟩
    have HB2 := Lh hb
    have HIN := Lh hin
    have HR := Lh hrun
    have EM0 := Lh (hm0 (by first | trivial | rfl))
    clear hb hin hrun HRUN d1 d2 d3 hm0
    obtain ⟨cs, ecs⟩ : ∃ cs, m0.cs = cs := ⟨_, rfl⟩
    have ECS := Lh ecs
    have HCS := Lh (show cs.size = 14 from by rw [← ecs]; rfl)
    have HCO := Lh (show cs.toList.all (·.oneCell') = true from by rw [← ecs]; rfl)
    rw [ecs]
    clear ecs
    go_upto_region 6 with (refine wpl_store_blk rfl 34 (.tmp 3) (.tmp 18) rfl w2.heap.size 34 mZ cs rfl rfl (Blk.new w2 _ _) (by rw [HCS.out]; rfl) (by rw [HCS.out]; exact Tryz.szSt) HCO.out ?_; intro w3 hB3 hO3)
    have hb3 : Below w2.heap.size w2 w3 := ((Below.refl _ _).alloc (Nat.le_refl _) _).trans (hO3.out.below (Nat.le_refl _))
    have RW0 := Lh (show RunW w [w2.heap.size] w2.heap.size m0 0 w3 from ⟨HB2.out.trans (hb3.mono HB2.out.size), by rw [ECS.out]; exact hB3.out, HIN.out.later hb3, fun q hq => by
      rw [List.mem_singleton.1 hq]
      exact HIN.out.rows.imp fun r hr => hr.off (Nat.le_refl _), fun q hq => by
      rw [List.mem_singleton.1 hq]
      exact ⟨HB2.out.size, hB3.out.lt⟩, by simp, HR.out⟩)
    obtain ⟨b3, e3⟩ : ∃ b3, w2.heap.size = b3 := ⟨_, rfl⟩
    rw [e3] at RW0 ⊢
    obtain ⟨GG, eGG⟩ : ∃ GG, [b3] = GG := ⟨_, rfl⟩
    rw [eGG] at RW0
    clear eGG e3 hB3 hO3 hb3 HCS HCO ECS HIN HR HB2
    go_wp2_with fail
    go_loopw [5, 6, 7] (fun vg vn vi wr => ∃ (k : Nat) (m : MM) (gv gn : Int), k ≤ n ∧ vi = .int .i64 k ∧ vg = .int .i64 gv ∧ vn = .int .i64 gn ∧ (0 ≤ gn ∧ gn ≤ k) ∧ (0 ≤ gv ∧ gv ≤ 3 * k) ∧ Hid (RunW w GG b3 m k wr) ∧ Hid (cntM m.x + gn = gv ∧ m.x.n = 3)) (fun _ _ vi _ => n - (intOf vi).toNat)
    case atStart => exact ⟨0, m0, 0, 0, by omega, rfl, rfl, rfl, by omega, by omega, RW0, Lh (by rw [EM0.out]; exact ⟨rfl, rfl⟩)⟩
    case round =>
      obtain ⟨k, m, gv, gn, hk, rfl, rfl, rfl, hgn, hgv, RW, HCN⟩ := hrel
      by_cases hlt : k < n
      · have hmsl : k < cms.length := by have := HLN.out; omega
        obtain ⟨ad, rfl, hadb, hcell⟩ := elem_cells (cells := cmL) (K := 16) (fun _ => rfl) (HRD.out.later RW.out.bel) hmsl (by omega)
        have hcw := HCW.out cms[k] (List.getElem_mem hmsl)
        obtain ⟨cm, ecm⟩ : ∃ cm, cms[k] = cm := ⟨_, rfl⟩
        rw [ecm] at hcell hcw
        have HAD := Lh hadb
        obtain ⟨q, hq⟩ : ∃ q, k + 1 = q := ⟨_, rfl⟩
        have HQ := Lh hq
        have hw1 : IntKind.i64.wrap ((k : Int) + 1) = (q : Int) := by rw [IntKind.wrap_i64]; omega
        have hw2 : IntKind.u64.wrap (q : Int) = (q : Int) := by rw [IntKind.wrap_u64]; omega
        have hap := ap_calls RW.out.inn RW.out.run (by omega) RW.out.off RW.out.lt RW.out.bel cm hcw
        obtain ⟨cs, ecs⟩ : ∃ cs, m.cs = cs := ⟨_, rfl⟩
        have ECS := Lh ecs
        have HCS := Lh (show cs.size = 14 from by rw [← ecs]; rfl)
        have HCO := Lh (show cs.toList.all (·.oneCell') = true from by rw [← ecs]; rfl)
        have HBS := Lh (show Blk wr b3 34 cs from by rw [← ecs]; exact RW.out.blk)
        obtain ⟨ks, eks⟩ : ∃ ks, cmdCs cm.x cm.A cm.c = ks := ⟨_, rfl⟩
        have EKS := Lh eks
        have HKS := Lh (show ks.size = 16 from by rw [← eks]; rfl)
        have HC1 : Hid (∀ j' v, ks.toList[j']? = some v → wr.cell? ((ad.add (k * 16)).add j') = some v) := by rw [← eks]; exact Lh hcell
        have HAP := Lh (show ∀ W, Below wr.heap.size wr W → ∀ G1 : List Nat, (∀ q ∈ G1, wr.heap.size ≤ q ∧ q < W.heap.size) → Calls Tryz.prog 9 #[.agg cs, .int .u64 (q : Int), .agg ks] W (RetApp (applyM plF m.x (k + 1) cm.x) (G1 ++ GG) W) from by rw [← hq, ← ecs, ← eks]; exact hap)
        clear ecm hmsl hadb hcell hcw hq hap ecs eks
        obtain ⟨ni, eni⟩ : ∃ x, m.x.ints.length = x := ⟨_, rfl⟩
        have hni : ni ≤ 16777216 := by rw [← eni]; exact RW.out.inn.wf.il
        have ENI := Lh eni
        have k9 : wr.cell? ⟨b3, 9, none⟩ = some (.slice m.IA ni m.ic) := (HBS.out.cell 9).trans (by rw [← ECS.out, ← eni]; rfl)
        clear eni
        go_upto_region 11 with (fail)
        clear k9
        go_cut [9, 10, 11] from 22 to 123 (fun s7 s8 s9 wx => ∃ (b7 b8 : Nat) (m' : MM) (rr : Array Value), s7 = .pointer (some ⟨b7, 0, none⟩) ∧ s8 = .pointer (some ⟨b8, 0, none⟩) ∧ s9 = .int .i64 0 ∧ Hid (ApS wr GG (applyM plF m.x (k + 1) cm.x) m' b7 b8 rr wx))
        case first =>
          refine wp_region_late (S0 := fun w' => Below wr.heap.size wr w') (S := fun _ => True) 16 18 (by kernel_rfl) rfl ⟨(Below.refl _ _).drew, trivial⟩ (fun x0 hwd hH => ?_)
          have BX0 := Lh (show Below wr.heap.size wr x0 from by rw [hwd]; exact (Below.refl _ _).drew)
          clear hwd
          refine wpAnyT_stay 0 rfl (by kernel_rfl) (fun _ _ _ h => h) (yields_load_blk rfl 34 (.tmp 3) rfl b3 34 cs _ rfl (fun w' hw' => HBS.out.below hw' HBS.out.lt) Tryz.underlying34 rfl (by rw [HCS.out]; exact Tryz.szSt)) ⟨hH.1, fun _ => hH.2⟩ ?_
          try simp only [Act.put, pA9, pZ9, pS9]
          refine wpAnyT_stay 1 (v := ?_) rfl (by kernel_rfl) (fun _ _ _ h => h) (Or.inl ⟨by rfl, ?_⟩) ⟨hH.1, fun _ => hH.2⟩ ?_
          rotate_left
          · (intro wx hx; go_simp <;> with_reducible rfl)
          try simp only [Act.put, pA9, pZ9, pS9]
          refine wpAnyT_stay 2 (v := ?_) rfl (by kernel_rfl) (fun _ _ _ h => h) (Or.inl ⟨by rfl, ?_⟩) ⟨hH.1, fun _ => hH.2⟩ ?_
          rotate_left
          · (intro wx hx; go_simp <;> with_reducible rfl)
          try simp only [Act.put, pA9, pZ9, pS9]
          refine wpAnyT_stay 3 (v := ?_) rfl (by kernel_rfl) (fun _ _ _ h => h) (Or.inl ⟨by rfl, ?_⟩) ⟨hH.1, fun _ => hH.2⟩ ?_
          rotate_left
          · (intro wx hx; go_simp <;> with_reducible rfl)
          try simp only [Act.put, pA9, pZ9, pS9]
          refine wpAnyT_stay 4 (v := ?_) rfl (by kernel_rfl) (fun _ _ _ h => h) (Or.inl ⟨by rfl, ?_⟩) ⟨hH.1, fun _ => hH.2⟩ ?_
          rotate_left
          · (intro wx hx; go_simp <;> with_reducible rfl)
          try simp only [Act.put, pA9, pZ9, pS9]
          refine wpAnyT_stay 5 (v := ?_) rfl (by kernel_rfl) (fun _ _ _ h => h) (Or.inl ⟨by rfl, ?_⟩) ⟨hH.1, fun _ => hH.2⟩ ?_
          rotate_left
          · (intro wx hx; go_simp <;> with_reducible rfl)
          try simp only [Act.put, pA9, pZ9, pS9]
          refine wpAnyT_stay 6 (v := ?_) rfl (by kernel_rfl) (fun _ _ _ h => h) (Or.inl ⟨by rfl, ?_⟩) ⟨hH.1, fun _ => hH.2⟩ ?_
          rotate_left
          · (intro wx hx; go_simp <;> with_reducible rfl)
          try simp only [Act.put, pA9, pZ9, pS9]
          refine wpAnyT_stay 7 rfl (by kernel_rfl) (fun _ _ _ h => h) (yields_load_at rfl 48 (.tmp 38) rfl (ad.add (k * 16)) ks.toList _ rfl (fun w' hw' j' v hv => (Below.cell hw' (p := (ad.add (k * 16)).add j') (by rw [block_of_add, block_of_add]; exact HAD.out)).trans (HC1.out j' v hv)) Tryz.underlying48 rfl (by rw [Array.length_toList, HKS.out]; exact Tryz.szCm)) ⟨hH.1, fun _ => hH.2⟩ ?_
          try simp only [Act.put, pA9, pZ9, pS9]
          refine wpAnyT_three 8 13 14 rfl rfl rfl (by kernel_rfl) (fun K hQ => ?_) (fun K hQ => ?_) (fun K hQ => ?_)
          · rw [if_pos (by rfl)]
            go_simp
            (go_at_call 9; refine (HAP.out x0 BX0.out [] (fun q hq => by cases hq)).mono ?_; rintro e x1 ⟨m', A', c', rfl, hin, hx', hb, hoff⟩)
            have BX1 := Lh (BX0.out.trans (hb.mono BX0.out.size))
            have HAI := Lh (show ApI wr ([] ++ GG) m' x1 from ⟨BX1.out, hin, hoff⟩)
            have HX' := Lh hx'
            obtain ⟨mcs, emcs⟩ : ∃ mcs, m'.cs = mcs := ⟨_, rfl⟩
            have HMC := Lh emcs
            have HMZ := Lh (show mcs.size = 14 from by rw [← emcs]; rfl)
            have HMO := Lh (show mcs.toList.all (·.oneCell') = true from by rw [← emcs]; rfl)
            rw [emcs]
            obtain ⟨rr, err⟩ : ∃ rr, rcs (applyM plF m.x (k + 1) cm.x).2 A' c' = rr := ⟨_, rfl⟩
            have HRR := Lh err
            have HRZ := Lh (show rr.size = 4 from by rw [← err]; rfl)
            have HRO := Lh (show rr.toList.all (·.oneCell') = true from by rw [← err]; rfl)
            rw [err]
            clear hb hin hoff hx' emcs err
            refine hQ.out _ _ ?_ (fun hH1 => ?_)
            · exact ⟨BX1.out, trivial⟩
            clear hQ K
            try simp only [Act.put, pA9, pZ9, pS9]
            refine wpAnyT_stay 9 (v := ?_) rfl (by kernel_rfl) (fun _ _ _ h => h) (Or.inl ⟨by rfl, ?_⟩) ⟨hH1.1, fun _ => hH1.2⟩ ?_
            rotate_left
            · (intro wx hx; go_simp <;> with_reducible rfl)
            try simp only [Act.put, pA9, pZ9, pS9]
            refine wpAnyT_stay 10 (v := ?_) rfl (by kernel_rfl) (fun _ _ _ h => h) (Or.inl ⟨by rfl, ?_⟩) ⟨hH1.1, fun _ => hH1.2⟩ ?_
            rotate_left
            · (intro wx hx; go_simp <;> with_reducible rfl)
            try simp only [Act.put, pA9, pZ9, pS9]
            refine wpAnyT_stay 11 (v := ?_) rfl (by kernel_rfl) (fun _ _ _ h => h) (Or.inl ⟨by rfl, ?_⟩) ⟨hH1.1, fun _ => hH1.2⟩ ?_
            rotate_left
            · (intro wx hx; go_simp <;> with_reducible rfl)
            try simp only [Act.put, pA9, pZ9, pS9]
            refine wpAnyT_stay 12 (v := ?_) rfl (by kernel_rfl) (fun _ _ _ h => h) (Or.inl ⟨by rfl, ?_⟩) ⟨hH1.1, fun _ => hH1.2⟩ ?_
            rotate_left
            · (intro wx hx; go_simp <;> with_reducible rfl)
            try simp only [Act.put, pA9, pZ9, pS9]
            refine wpAnyT_two 13 14 rfl rfl (by kernel_rfl) (fun K hQ => ?_) (fun K hQ => ?_)
            · rw [if_pos (by rfl)]
              go_simp
              obtain ⟨x2, ew⟩ : ∃ w6, x1.alloc (.cells mZ 34) = w6 := ⟨_, rfl⟩
              have hb : Below x1.heap.size x1 (x1.alloc (.cells mZ 34)) := (Below.refl _ _).alloc (Nat.le_refl _) _
              have hg := Blk.new x1 34 mZ
              rw [ew] at hb hg
              have ew' : x1.alloc (.cells #[.int .i64 0, .int .i64 0, .int .i64 0, .int .u64 0, .slice none 0 0, .int .u64 0, .slice none 0 0, .slice none 0 0, .slice none 0 0, .slice none 0 0, .slice none 0 0, .slice none 0 0, .slice none 0 0, .int .u64 0] 34) = x2 := ew
              rw [ew']
              obtain ⟨b7, eb⟩ : ∃ b, x1.heap.size = b := ⟨_, rfl⟩
              have H7G := Lh (show wr.heap.size ≤ b7 from by rw [← eb]; exact BX1.out.size)
              have HAI := Lh (HAI.out.alloc hb (Nat.le_of_eq eb))
              have BX2 := Lh (BX1.out.trans (hb.mono BX1.out.size))
              rw [eb] at hg ⊢
              have HP7 := Lh hg
              clear hb hg ew ew' eb
              refine hQ.out _ _ ?_ (fun hH2 => ?_)
              · exact ⟨BX2.out, trivial⟩
              clear hQ K
              try simp only [Act.put, pA9, pZ9, pS9]
              refine wpAnyT_one 14 rfl (by kernel_rfl) (fun K hQ => ?_)
              rw [if_pos (by rfl)]
              go_simp
              obtain ⟨x3, ew⟩ : ∃ w6, x2.alloc (.cells rZ 39) = w6 := ⟨_, rfl⟩
              have hb : Below x2.heap.size x2 (x2.alloc (.cells rZ 39)) := (Below.refl _ _).alloc (Nat.le_refl _) _
              have hg := Blk.new x2 39 rZ
              rw [ew] at hb hg
              have ew' : x2.alloc (.cells #[.int .i64 0, .int .u64 0, .slice none 0 0, .int .u64 0] 39) = x3 := ew
              rw [ew']
              obtain ⟨b8, eb⟩ : ∃ b, x2.heap.size = b := ⟨_, rfl⟩
              have H8G := Lh (show wr.heap.size ≤ b8 from by rw [← eb]; exact BX2.out.size)
              have HNE := Lh (show b7 < b8 from by rw [← eb]; exact HP7.out.lt)
              have HAI := Lh (HAI.out.alloc hb (Nat.le_of_eq eb))
              have BX3 := Lh (BX2.out.trans (hb.mono BX2.out.size))
              have HP7 := Lh (HP7.out.below hb HP7.out.lt)
              rw [eb] at hg ⊢
              have HP8 := Lh hg
              clear hb hg ew ew' eb
              refine hQ.out _ _ ?_ (fun hH3 => ?_)
              · exact ⟨BX3.out, trivial⟩
              clear hQ K
              try simp only [Act.put, pA9, pZ9, pS9]
              refine wpAnyT_one 15 rfl (by kernel_rfl) (fun K hQ => ?_)
              refine step_store_blk rfl 34 (.tmp 9) (.tmp 41) rfl b7 34 mZ mcs rfl rfl HP7.out (by rw [HMZ.out]; rfl) (by rw [HMZ.out]; exact Tryz.szSt) HMO.out ?_
              intro x4 hB4 hO4
              have BX4 := Lh (BX3.out.trans (hO4.out.below H7G.out))
              refine hQ.out _ _ ?_ (fun hH315 => ?_)
              · exact ⟨BX4.out, trivial⟩
              clear hQ K
              try simp only [Act.put, pA9, pZ9, pS9]
              refine wpAnyT_last 16 rfl (by kernel_rfl) (by decide) (fun K hQ => ?_)
              refine step_store_blk rfl 39 (.tmp 10) (.tmp 42) rfl b8 39 rZ rr rfl rfl (hO4.out.blk HP8.out (by have := HNE.out; omega)) (by rw [HRZ.out]; rfl) (by rw [HRZ.out]; exact Tryz.szR) HRO.out ?_
              intro x5 hB5 hO5
              have BX5 := Lh (BX4.out.trans (hO5.out.below H8G.out))
              refine hQ.out _ _ ?_ (fun hH316 => ?_)
              · exact BX5.out
              clear hQ K
              try simp only [Act.put, pA9, pZ9, pS9]
              refine wpAnyT_stay 17 (v := ?_) rfl (by kernel_rfl) (fun _ _ _ h => h) (Or.inl ⟨by rfl, ?_⟩) ⟨hH316, fun h => absurd h (by decide)⟩ ?_
              rotate_left
              · (intro wx hx; go_simp <;> with_reducible rfl)
              try simp only [Act.put, pA9, pZ9, pS9]
              refine wpAnyT_done (by kernel_rfl) ?_ _
              go_wp2_with fail
              go_meet
              case rel => exact ⟨b7, b8, m', rr, rfl, rfl, rfl, Lh (ApS.mk' ((HAI.out.store hO4.out (by simp) H7G.out).store hO5.out (by simp) H8G.out) (fun q hq => by simp [hq]) (by simp) (by simp) ⟨A', c', HRR.out.symm⟩ HX'.out (by rw [HMC.out]; exact hO5.out.blk hB4.out (by have := HNE.out; omega)) hB5.out H7G.out H8G.out)⟩
            · rw [if_pos (by rfl)]
              go_simp
              obtain ⟨x2, ew⟩ : ∃ w6, x1.alloc (.cells rZ 39) = w6 := ⟨_, rfl⟩
              have hb : Below x1.heap.size x1 (x1.alloc (.cells rZ 39)) := (Below.refl _ _).alloc (Nat.le_refl _) _
              have hg := Blk.new x1 39 rZ
              rw [ew] at hb hg
              have ew' : x1.alloc (.cells #[.int .i64 0, .int .u64 0, .slice none 0 0, .int .u64 0] 39) = x2 := ew
              rw [ew']
              obtain ⟨b8, eb⟩ : ∃ b, x1.heap.size = b := ⟨_, rfl⟩
              have H8G := Lh (show wr.heap.size ≤ b8 from by rw [← eb]; exact BX1.out.size)
              have HAI := Lh (HAI.out.alloc hb (Nat.le_of_eq eb))
              have BX2 := Lh (BX1.out.trans (hb.mono BX1.out.size))
              rw [eb] at hg ⊢
              have HP8 := Lh hg
              clear hb hg ew ew' eb
              refine hQ.out _ _ ?_ (fun hH2 => ?_)
              · exact ⟨BX2.out, trivial⟩
              clear hQ K
              try simp only [Act.put, pA9, pZ9, pS9]
              refine wpAnyT_one 13 rfl (by kernel_rfl) (fun K hQ => ?_)
              rw [if_pos (by rfl)]
              go_simp
              obtain ⟨x3, ew⟩ : ∃ w6, x2.alloc (.cells mZ 34) = w6 := ⟨_, rfl⟩
              have hb : Below x2.heap.size x2 (x2.alloc (.cells mZ 34)) := (Below.refl _ _).alloc (Nat.le_refl _) _
              have hg := Blk.new x2 34 mZ
              rw [ew] at hb hg
              have ew' : x2.alloc (.cells #[.int .i64 0, .int .i64 0, .int .i64 0, .int .u64 0, .slice none 0 0, .int .u64 0, .slice none 0 0, .slice none 0 0, .slice none 0 0, .slice none 0 0, .slice none 0 0, .slice none 0 0, .slice none 0 0, .int .u64 0] 34) = x3 := ew
              rw [ew']
              obtain ⟨b7, eb⟩ : ∃ b, x2.heap.size = b := ⟨_, rfl⟩
              have H7G := Lh (show wr.heap.size ≤ b7 from by rw [← eb]; exact BX2.out.size)
              have HNE := Lh (show b8 < b7 from by rw [← eb]; exact HP8.out.lt)
              have HAI := Lh (HAI.out.alloc hb (Nat.le_of_eq eb))
              have BX3 := Lh (BX2.out.trans (hb.mono BX2.out.size))
              have HP8 := Lh (HP8.out.below hb HP8.out.lt)
              rw [eb] at hg ⊢
              have HP7 := Lh hg
              clear hb hg ew ew' eb
              refine hQ.out _ _ ?_ (fun hH3 => ?_)
              · exact ⟨BX3.out, trivial⟩
              clear hQ K
              try simp only [Act.put, pA9, pZ9, pS9]
              refine wpAnyT_one 15 rfl (by kernel_rfl) (fun K hQ => ?_)
              refine step_store_blk rfl 34 (.tmp 9) (.tmp 41) rfl b7 34 mZ mcs rfl rfl HP7.out (by rw [HMZ.out]; rfl) (by rw [HMZ.out]; exact Tryz.szSt) HMO.out ?_
              intro x4 hB4 hO4
              have BX4 := Lh (BX3.out.trans (hO4.out.below H7G.out))
              refine hQ.out _ _ ?_ (fun hH315 => ?_)
              · exact ⟨BX4.out, trivial⟩
              clear hQ K
              try simp only [Act.put, pA9, pZ9, pS9]
              refine wpAnyT_last 16 rfl (by kernel_rfl) (by decide) (fun K hQ => ?_)
              refine step_store_blk rfl 39 (.tmp 10) (.tmp 42) rfl b8 39 rZ rr rfl rfl (hO4.out.blk HP8.out (by have := HNE.out; omega)) (by rw [HRZ.out]; rfl) (by rw [HRZ.out]; exact Tryz.szR) HRO.out ?_
              intro x5 hB5 hO5
              have BX5 := Lh (BX4.out.trans (hO5.out.below H8G.out))
              refine hQ.out _ _ ?_ (fun hH316 => ?_)
              · exact BX5.out
              clear hQ K
              try simp only [Act.put, pA9, pZ9, pS9]
              refine wpAnyT_stay 17 (v := ?_) rfl (by kernel_rfl) (fun _ _ _ h => h) (Or.inl ⟨by rfl, ?_⟩) ⟨hH316, fun h => absurd h (by decide)⟩ ?_
              rotate_left
              · (intro wx hx; go_simp <;> with_reducible rfl)
              try simp only [Act.put, pA9, pZ9, pS9]
              refine wpAnyT_done (by kernel_rfl) ?_ _
              go_wp2_with fail
              go_meet
              case rel => exact ⟨b7, b8, m', rr, rfl, rfl, rfl, Lh (ApS.mk' ((HAI.out.store hO4.out (by simp) H7G.out).store hO5.out (by simp) H8G.out) (fun q hq => by simp [hq]) (by simp) (by simp) ⟨A', c', HRR.out.symm⟩ HX'.out (by rw [HMC.out]; exact hO5.out.blk hB4.out (by have := HNE.out; omega)) hB5.out H7G.out H8G.out)⟩
          · rw [if_pos (by rfl)]
            go_simp
            obtain ⟨x1, ew⟩ : ∃ w6, x0.alloc (.cells mZ 34) = w6 := ⟨_, rfl⟩
            have hb : Below x0.heap.size x0 (x0.alloc (.cells mZ 34)) := (Below.refl _ _).alloc (Nat.le_refl _) _
            have hg := Blk.new x0 34 mZ
            rw [ew] at hb hg
            have ew' : x0.alloc (.cells #[.int .i64 0, .int .i64 0, .int .i64 0, .int .u64 0, .slice none 0 0, .int .u64 0, .slice none 0 0, .slice none 0 0, .slice none 0 0, .slice none 0 0, .slice none 0 0, .slice none 0 0, .slice none 0 0, .int .u64 0] 34) = x1 := ew
            rw [ew']
            obtain ⟨b7, eb⟩ : ∃ b, x0.heap.size = b := ⟨_, rfl⟩
            have H7G := Lh (show wr.heap.size ≤ b7 from by rw [← eb]; exact BX0.out.size)
            have BX1 := Lh (BX0.out.trans (hb.mono BX0.out.size))
            rw [eb] at hg ⊢
            have HP7 := Lh hg
            clear hb hg ew ew' eb
            refine hQ.out _ _ ?_ (fun hH1 => ?_)
            · exact ⟨BX1.out, trivial⟩
            clear hQ K
            try simp only [Act.put, pA9, pZ9, pS9]
            refine wpAnyT_two 8 14 rfl rfl (by kernel_rfl) (fun K hQ => ?_) (fun K hQ => ?_)
            · rw [if_pos (by rfl)]
              go_simp
              (go_at_call 9; refine (HAP.out x1 BX1.out [b7] (fun q hq => by simp only [List.mem_cons, List.not_mem_nil, or_false] at hq; rcases hq with rfl <;> exact ⟨H7G.out, HP7.out.lt⟩)).mono ?_; rintro e x2 ⟨m', A', c', rfl, hin, hx', hb, hoff⟩)
              have BX2 := Lh (BX1.out.trans (hb.mono BX1.out.size))
              have HP7 := Lh (HP7.out.below hb HP7.out.lt)
              have HAI := Lh (show ApI wr ([b7] ++ GG) m' x2 from ⟨BX2.out, hin, hoff⟩)
              have HX' := Lh hx'
              obtain ⟨mcs, emcs⟩ : ∃ mcs, m'.cs = mcs := ⟨_, rfl⟩
              have HMC := Lh emcs
              have HMZ := Lh (show mcs.size = 14 from by rw [← emcs]; rfl)
              have HMO := Lh (show mcs.toList.all (·.oneCell') = true from by rw [← emcs]; rfl)
              rw [emcs]
              obtain ⟨rr, err⟩ : ∃ rr, rcs (applyM plF m.x (k + 1) cm.x).2 A' c' = rr := ⟨_, rfl⟩
              have HRR := Lh err
              have HRZ := Lh (show rr.size = 4 from by rw [← err]; rfl)
              have HRO := Lh (show rr.toList.all (·.oneCell') = true from by rw [← err]; rfl)
              rw [err]
              clear hb hin hoff hx' emcs err
              refine hQ.out _ _ ?_ (fun hH2 => ?_)
              · exact ⟨BX2.out, trivial⟩
              clear hQ K
              try simp only [Act.put, pA9, pZ9, pS9]
              refine wpAnyT_stay 9 (v := ?_) rfl (by kernel_rfl) (fun _ _ _ h => h) (Or.inl ⟨by rfl, ?_⟩) ⟨hH2.1, fun _ => hH2.2⟩ ?_
              rotate_left
              · (intro wx hx; go_simp <;> with_reducible rfl)
              try simp only [Act.put, pA9, pZ9, pS9]
              refine wpAnyT_stay 10 (v := ?_) rfl (by kernel_rfl) (fun _ _ _ h => h) (Or.inl ⟨by rfl, ?_⟩) ⟨hH2.1, fun _ => hH2.2⟩ ?_
              rotate_left
              · (intro wx hx; go_simp <;> with_reducible rfl)
              try simp only [Act.put, pA9, pZ9, pS9]
              refine wpAnyT_stay 11 (v := ?_) rfl (by kernel_rfl) (fun _ _ _ h => h) (Or.inl ⟨by rfl, ?_⟩) ⟨hH2.1, fun _ => hH2.2⟩ ?_
              rotate_left
              · (intro wx hx; go_simp <;> with_reducible rfl)
              try simp only [Act.put, pA9, pZ9, pS9]
              refine wpAnyT_stay 12 (v := ?_) rfl (by kernel_rfl) (fun _ _ _ h => h) (Or.inl ⟨by rfl, ?_⟩) ⟨hH2.1, fun _ => hH2.2⟩ ?_
              rotate_left
              · (intro wx hx; go_simp <;> with_reducible rfl)
              try simp only [Act.put, pA9, pZ9, pS9]
              refine wpAnyT_one 14 rfl (by kernel_rfl) (fun K hQ => ?_)
              rw [if_pos (by rfl)]
              go_simp
              obtain ⟨x3, ew⟩ : ∃ w6, x2.alloc (.cells rZ 39) = w6 := ⟨_, rfl⟩
              have hb : Below x2.heap.size x2 (x2.alloc (.cells rZ 39)) := (Below.refl _ _).alloc (Nat.le_refl _) _
              have hg := Blk.new x2 39 rZ
              rw [ew] at hb hg
              have ew' : x2.alloc (.cells #[.int .i64 0, .int .u64 0, .slice none 0 0, .int .u64 0] 39) = x3 := ew
              rw [ew']
              obtain ⟨b8, eb⟩ : ∃ b, x2.heap.size = b := ⟨_, rfl⟩
              have H8G := Lh (show wr.heap.size ≤ b8 from by rw [← eb]; exact BX2.out.size)
              have HNE := Lh (show b7 < b8 from by rw [← eb]; exact HP7.out.lt)
              have HAI := Lh (HAI.out.alloc hb (Nat.le_of_eq eb))
              have BX3 := Lh (BX2.out.trans (hb.mono BX2.out.size))
              have HP7 := Lh (HP7.out.below hb HP7.out.lt)
              rw [eb] at hg ⊢
              have HP8 := Lh hg
              clear hb hg ew ew' eb
              refine hQ.out _ _ ?_ (fun hH3 => ?_)
              · exact ⟨BX3.out, trivial⟩
              clear hQ K
              try simp only [Act.put, pA9, pZ9, pS9]
              refine wpAnyT_one 15 rfl (by kernel_rfl) (fun K hQ => ?_)
              refine step_store_blk rfl 34 (.tmp 9) (.tmp 41) rfl b7 34 mZ mcs rfl rfl HP7.out (by rw [HMZ.out]; rfl) (by rw [HMZ.out]; exact Tryz.szSt) HMO.out ?_
              intro x4 hB4 hO4
              have BX4 := Lh (BX3.out.trans (hO4.out.below H7G.out))
              refine hQ.out _ _ ?_ (fun hH315 => ?_)
              · exact ⟨BX4.out, trivial⟩
              clear hQ K
              try simp only [Act.put, pA9, pZ9, pS9]
              refine wpAnyT_last 16 rfl (by kernel_rfl) (by decide) (fun K hQ => ?_)
              refine step_store_blk rfl 39 (.tmp 10) (.tmp 42) rfl b8 39 rZ rr rfl rfl (hO4.out.blk HP8.out (by have := HNE.out; omega)) (by rw [HRZ.out]; rfl) (by rw [HRZ.out]; exact Tryz.szR) HRO.out ?_
              intro x5 hB5 hO5
              have BX5 := Lh (BX4.out.trans (hO5.out.below H8G.out))
              refine hQ.out _ _ ?_ (fun hH316 => ?_)
              · exact BX5.out
              clear hQ K
              try simp only [Act.put, pA9, pZ9, pS9]
              refine wpAnyT_stay 17 (v := ?_) rfl (by kernel_rfl) (fun _ _ _ h => h) (Or.inl ⟨by rfl, ?_⟩) ⟨hH316, fun h => absurd h (by decide)⟩ ?_
              rotate_left
              · (intro wx hx; go_simp <;> with_reducible rfl)
              try simp only [Act.put, pA9, pZ9, pS9]
              refine wpAnyT_done (by kernel_rfl) ?_ _
              go_wp2_with fail
              go_meet
              case rel => exact ⟨b7, b8, m', rr, rfl, rfl, rfl, Lh (ApS.mk' ((HAI.out.store hO4.out (by simp) H7G.out).store hO5.out (by simp) H8G.out) (fun q hq => by simp [hq]) (by simp) (by simp) ⟨A', c', HRR.out.symm⟩ HX'.out (by rw [HMC.out]; exact hO5.out.blk hB4.out (by have := HNE.out; omega)) hB5.out H7G.out H8G.out)⟩
            · rw [if_pos (by rfl)]
              go_simp
              obtain ⟨x2, ew⟩ : ∃ w6, x1.alloc (.cells rZ 39) = w6 := ⟨_, rfl⟩
              have hb : Below x1.heap.size x1 (x1.alloc (.cells rZ 39)) := (Below.refl _ _).alloc (Nat.le_refl _) _
              have hg := Blk.new x1 39 rZ
              rw [ew] at hb hg
              have ew' : x1.alloc (.cells #[.int .i64 0, .int .u64 0, .slice none 0 0, .int .u64 0] 39) = x2 := ew
              rw [ew']
              obtain ⟨b8, eb⟩ : ∃ b, x1.heap.size = b := ⟨_, rfl⟩
              have H8G := Lh (show wr.heap.size ≤ b8 from by rw [← eb]; exact BX1.out.size)
              have HNE := Lh (show b7 < b8 from by rw [← eb]; exact HP7.out.lt)
              have BX2 := Lh (BX1.out.trans (hb.mono BX1.out.size))
              have HP7 := Lh (HP7.out.below hb HP7.out.lt)
              rw [eb] at hg ⊢
              have HP8 := Lh hg
              clear hb hg ew ew' eb
              refine hQ.out _ _ ?_ (fun hH2 => ?_)
              · exact ⟨BX2.out, trivial⟩
              clear hQ K
              try simp only [Act.put, pA9, pZ9, pS9]
              refine wpAnyT_one 8 rfl (by kernel_rfl) (fun K hQ => ?_)
              rw [if_pos (by rfl)]
              go_simp
              (go_at_call 9; refine (HAP.out x2 BX2.out [b8, b7] (fun q hq => by simp only [List.mem_cons, List.not_mem_nil, or_false] at hq; rcases hq with rfl | rfl <;> first | exact ⟨H8G.out, HP8.out.lt⟩ | exact ⟨H7G.out, HP7.out.lt⟩)).mono ?_; rintro e x3 ⟨m', A', c', rfl, hin, hx', hb, hoff⟩)
              have BX3 := Lh (BX2.out.trans (hb.mono BX2.out.size))
              have HP7 := Lh (HP7.out.below hb HP7.out.lt)
              have HP8 := Lh (HP8.out.below hb HP8.out.lt)
              have HAI := Lh (show ApI wr ([b8, b7] ++ GG) m' x3 from ⟨BX3.out, hin, hoff⟩)
              have HX' := Lh hx'
              obtain ⟨mcs, emcs⟩ : ∃ mcs, m'.cs = mcs := ⟨_, rfl⟩
              have HMC := Lh emcs
              have HMZ := Lh (show mcs.size = 14 from by rw [← emcs]; rfl)
              have HMO := Lh (show mcs.toList.all (·.oneCell') = true from by rw [← emcs]; rfl)
              rw [emcs]
              obtain ⟨rr, err⟩ : ∃ rr, rcs (applyM plF m.x (k + 1) cm.x).2 A' c' = rr := ⟨_, rfl⟩
              have HRR := Lh err
              have HRZ := Lh (show rr.size = 4 from by rw [← err]; rfl)
              have HRO := Lh (show rr.toList.all (·.oneCell') = true from by rw [← err]; rfl)
              rw [err]
              clear hb hin hoff hx' emcs err
              refine hQ.out _ _ ?_ (fun hH3 => ?_)
              · exact ⟨BX3.out, trivial⟩
              clear hQ K
              try simp only [Act.put, pA9, pZ9, pS9]
              refine wpAnyT_stay 9 (v := ?_) rfl (by kernel_rfl) (fun _ _ _ h => h) (Or.inl ⟨by rfl, ?_⟩) ⟨hH3.1, fun _ => hH3.2⟩ ?_
              rotate_left
              · (intro wx hx; go_simp <;> with_reducible rfl)
              try simp only [Act.put, pA9, pZ9, pS9]
              refine wpAnyT_stay 10 (v := ?_) rfl (by kernel_rfl) (fun _ _ _ h => h) (Or.inl ⟨by rfl, ?_⟩) ⟨hH3.1, fun _ => hH3.2⟩ ?_
              rotate_left
              · (intro wx hx; go_simp <;> with_reducible rfl)
              try simp only [Act.put, pA9, pZ9, pS9]
              refine wpAnyT_stay 11 (v := ?_) rfl (by kernel_rfl) (fun _ _ _ h => h) (Or.inl ⟨by rfl, ?_⟩) ⟨hH3.1, fun _ => hH3.2⟩ ?_
              rotate_left
              · (intro wx hx; go_simp <;> with_reducible rfl)
              try simp only [Act.put, pA9, pZ9, pS9]
              refine wpAnyT_stay 12 (v := ?_) rfl (by kernel_rfl) (fun _ _ _ h => h) (Or.inl ⟨by rfl, ?_⟩) ⟨hH3.1, fun _ => hH3.2⟩ ?_
              rotate_left
              · (intro wx hx; go_simp <;> with_reducible rfl)
              try simp only [Act.put, pA9, pZ9, pS9]
              refine wpAnyT_one 15 rfl (by kernel_rfl) (fun K hQ => ?_)
              refine step_store_blk rfl 34 (.tmp 9) (.tmp 41) rfl b7 34 mZ mcs rfl rfl HP7.out (by rw [HMZ.out]; rfl) (by rw [HMZ.out]; exact Tryz.szSt) HMO.out ?_
              intro x4 hB4 hO4
              have BX4 := Lh (BX3.out.trans (hO4.out.below H7G.out))
              refine hQ.out _ _ ?_ (fun hH315 => ?_)
              · exact ⟨BX4.out, trivial⟩
              clear hQ K
              try simp only [Act.put, pA9, pZ9, pS9]
              refine wpAnyT_last 16 rfl (by kernel_rfl) (by decide) (fun K hQ => ?_)
              refine step_store_blk rfl 39 (.tmp 10) (.tmp 42) rfl b8 39 rZ rr rfl rfl (hO4.out.blk HP8.out (by have := HNE.out; omega)) (by rw [HRZ.out]; rfl) (by rw [HRZ.out]; exact Tryz.szR) HRO.out ?_
              intro x5 hB5 hO5
              have BX5 := Lh (BX4.out.trans (hO5.out.below H8G.out))
              refine hQ.out _ _ ?_ (fun hH316 => ?_)
              · exact BX5.out
              clear hQ K
              try simp only [Act.put, pA9, pZ9, pS9]
              refine wpAnyT_stay 17 (v := ?_) rfl (by kernel_rfl) (fun _ _ _ h => h) (Or.inl ⟨by rfl, ?_⟩) ⟨hH316, fun h => absurd h (by decide)⟩ ?_
              rotate_left
              · (intro wx hx; go_simp <;> with_reducible rfl)
              try simp only [Act.put, pA9, pZ9, pS9]
              refine wpAnyT_done (by kernel_rfl) ?_ _
              go_wp2_with fail
              go_meet
              case rel => exact ⟨b7, b8, m', rr, rfl, rfl, rfl, Lh (ApS.mk' ((HAI.out.store hO4.out (by simp) H7G.out).store hO5.out (by simp) H8G.out) (fun q hq => by simp [hq]) (by simp) (by simp) ⟨A', c', HRR.out.symm⟩ HX'.out (by rw [HMC.out]; exact hO5.out.blk hB4.out (by have := HNE.out; omega)) hB5.out H7G.out H8G.out)⟩
          · rw [if_pos (by rfl)]
            go_simp
            obtain ⟨x1, ew⟩ : ∃ w6, x0.alloc (.cells rZ 39) = w6 := ⟨_, rfl⟩
            have hb : Below x0.heap.size x0 (x0.alloc (.cells rZ 39)) := (Below.refl _ _).alloc (Nat.le_refl _) _
            have hg := Blk.new x0 39 rZ
            rw [ew] at hb hg
            have ew' : x0.alloc (.cells #[.int .i64 0, .int .u64 0, .slice none 0 0, .int .u64 0] 39) = x1 := ew
            rw [ew']
            obtain ⟨b8, eb⟩ : ∃ b, x0.heap.size = b := ⟨_, rfl⟩
            have H8G := Lh (show wr.heap.size ≤ b8 from by rw [← eb]; exact BX0.out.size)
            have BX1 := Lh (BX0.out.trans (hb.mono BX0.out.size))
            rw [eb] at hg ⊢
            have HP8 := Lh hg
            clear hb hg ew ew' eb
            refine hQ.out _ _ ?_ (fun hH1 => ?_)
            · exact ⟨BX1.out, trivial⟩
            clear hQ K
            try simp only [Act.put, pA9, pZ9, pS9]
            refine wpAnyT_two 8 13 rfl rfl (by kernel_rfl) (fun K hQ => ?_) (fun K hQ => ?_)
            · rw [if_pos (by rfl)]
              go_simp
              (go_at_call 9; refine (HAP.out x1 BX1.out [b8] (fun q hq => by simp only [List.mem_cons, List.not_mem_nil, or_false] at hq; rcases hq with rfl <;> exact ⟨H8G.out, HP8.out.lt⟩)).mono ?_; rintro e x2 ⟨m', A', c', rfl, hin, hx', hb, hoff⟩)
              have BX2 := Lh (BX1.out.trans (hb.mono BX1.out.size))
              have HP8 := Lh (HP8.out.below hb HP8.out.lt)
              have HAI := Lh (show ApI wr ([b8] ++ GG) m' x2 from ⟨BX2.out, hin, hoff⟩)
              have HX' := Lh hx'
              obtain ⟨mcs, emcs⟩ : ∃ mcs, m'.cs = mcs := ⟨_, rfl⟩
              have HMC := Lh emcs
              have HMZ := Lh (show mcs.size = 14 from by rw [← emcs]; rfl)
              have HMO := Lh (show mcs.toList.all (·.oneCell') = true from by rw [← emcs]; rfl)
              rw [emcs]
              obtain ⟨rr, err⟩ : ∃ rr, rcs (applyM plF m.x (k + 1) cm.x).2 A' c' = rr := ⟨_, rfl⟩
              have HRR := Lh err
              have HRZ := Lh (show rr.size = 4 from by rw [← err]; rfl)
              have HRO := Lh (show rr.toList.all (·.oneCell') = true from by rw [← err]; rfl)
              rw [err]
              clear hb hin hoff hx' emcs err
              refine hQ.out _ _ ?_ (fun hH2 => ?_)
              · exact ⟨BX2.out, trivial⟩
              clear hQ K
              try simp only [Act.put, pA9, pZ9, pS9]
              refine wpAnyT_stay 9 (v := ?_) rfl (by kernel_rfl) (fun _ _ _ h => h) (Or.inl ⟨by rfl, ?_⟩) ⟨hH2.1, fun _ => hH2.2⟩ ?_
              rotate_left
              · (intro wx hx; go_simp <;> with_reducible rfl)
              try simp only [Act.put, pA9, pZ9, pS9]
              refine wpAnyT_stay 10 (v := ?_) rfl (by kernel_rfl) (fun _ _ _ h => h) (Or.inl ⟨by rfl, ?_⟩) ⟨hH2.1, fun _ => hH2.2⟩ ?_
              rotate_left
              · (intro wx hx; go_simp <;> with_reducible rfl)
              try simp only [Act.put, pA9, pZ9, pS9]
              refine wpAnyT_stay 11 (v := ?_) rfl (by kernel_rfl) (fun _ _ _ h => h) (Or.inl ⟨by rfl, ?_⟩) ⟨hH2.1, fun _ => hH2.2⟩ ?_
              rotate_left
              · (intro wx hx; go_simp <;> with_reducible rfl)
              try simp only [Act.put, pA9, pZ9, pS9]
              refine wpAnyT_stay 12 (v := ?_) rfl (by kernel_rfl) (fun _ _ _ h => h) (Or.inl ⟨by rfl, ?_⟩) ⟨hH2.1, fun _ => hH2.2⟩ ?_
              rotate_left
              · (intro wx hx; go_simp <;> with_reducible rfl)
              try simp only [Act.put, pA9, pZ9, pS9]
              refine wpAnyT_one 13 rfl (by kernel_rfl) (fun K hQ => ?_)
              rw [if_pos (by rfl)]
              go_simp
              obtain ⟨x3, ew⟩ : ∃ w6, x2.alloc (.cells mZ 34) = w6 := ⟨_, rfl⟩
              have hb : Below x2.heap.size x2 (x2.alloc (.cells mZ 34)) := (Below.refl _ _).alloc (Nat.le_refl _) _
              have hg := Blk.new x2 34 mZ
              rw [ew] at hb hg
              have ew' : x2.alloc (.cells #[.int .i64 0, .int .i64 0, .int .i64 0, .int .u64 0, .slice none 0 0, .int .u64 0, .slice none 0 0, .slice none 0 0, .slice none 0 0, .slice none 0 0, .slice none 0 0, .slice none 0 0, .slice none 0 0, .int .u64 0] 34) = x3 := ew
              rw [ew']
              obtain ⟨b7, eb⟩ : ∃ b, x2.heap.size = b := ⟨_, rfl⟩
              have H7G := Lh (show wr.heap.size ≤ b7 from by rw [← eb]; exact BX2.out.size)
              have HNE := Lh (show b8 < b7 from by rw [← eb]; exact HP8.out.lt)
              have HAI := Lh (HAI.out.alloc hb (Nat.le_of_eq eb))
              have BX3 := Lh (BX2.out.trans (hb.mono BX2.out.size))
              have HP8 := Lh (HP8.out.below hb HP8.out.lt)
              rw [eb] at hg ⊢
              have HP7 := Lh hg
              clear hb hg ew ew' eb
              refine hQ.out _ _ ?_ (fun hH3 => ?_)
              · exact ⟨BX3.out, trivial⟩
              clear hQ K
              try simp only [Act.put, pA9, pZ9, pS9]
              refine wpAnyT_one 15 rfl (by kernel_rfl) (fun K hQ => ?_)
              refine step_store_blk rfl 34 (.tmp 9) (.tmp 41) rfl b7 34 mZ mcs rfl rfl HP7.out (by rw [HMZ.out]; rfl) (by rw [HMZ.out]; exact Tryz.szSt) HMO.out ?_
              intro x4 hB4 hO4
              have BX4 := Lh (BX3.out.trans (hO4.out.below H7G.out))
              refine hQ.out _ _ ?_ (fun hH315 => ?_)
              · exact ⟨BX4.out, trivial⟩
              clear hQ K
              try simp only [Act.put, pA9, pZ9, pS9]
              refine wpAnyT_last 16 rfl (by kernel_rfl) (by decide) (fun K hQ => ?_)
              refine step_store_blk rfl 39 (.tmp 10) (.tmp 42) rfl b8 39 rZ rr rfl rfl (hO4.out.blk HP8.out (by have := HNE.out; omega)) (by rw [HRZ.out]; rfl) (by rw [HRZ.out]; exact Tryz.szR) HRO.out ?_
              intro x5 hB5 hO5
              have BX5 := Lh (BX4.out.trans (hO5.out.below H8G.out))
              refine hQ.out _ _ ?_ (fun hH316 => ?_)
              · exact BX5.out
              clear hQ K
              try simp only [Act.put, pA9, pZ9, pS9]
              refine wpAnyT_stay 17 (v := ?_) rfl (by kernel_rfl) (fun _ _ _ h => h) (Or.inl ⟨by rfl, ?_⟩) ⟨hH316, fun h => absurd h (by decide)⟩ ?_
              rotate_left
              · (intro wx hx; go_simp <;> with_reducible rfl)
              try simp only [Act.put, pA9, pZ9, pS9]
              refine wpAnyT_done (by kernel_rfl) ?_ _
              go_wp2_with fail
              go_meet
              case rel => exact ⟨b7, b8, m', rr, rfl, rfl, rfl, Lh (ApS.mk' ((HAI.out.store hO4.out (by simp) H7G.out).store hO5.out (by simp) H8G.out) (fun q hq => by simp [hq]) (by simp) (by simp) ⟨A', c', HRR.out.symm⟩ HX'.out (by rw [HMC.out]; exact hO5.out.blk hB4.out (by have := HNE.out; omega)) hB5.out H7G.out H8G.out)⟩
            · rw [if_pos (by rfl)]
              go_simp
              obtain ⟨x2, ew⟩ : ∃ w6, x1.alloc (.cells mZ 34) = w6 := ⟨_, rfl⟩
              have hb : Below x1.heap.size x1 (x1.alloc (.cells mZ 34)) := (Below.refl _ _).alloc (Nat.le_refl _) _
              have hg := Blk.new x1 34 mZ
              rw [ew] at hb hg
              have ew' : x1.alloc (.cells #[.int .i64 0, .int .i64 0, .int .i64 0, .int .u64 0, .slice none 0 0, .int .u64 0, .slice none 0 0, .slice none 0 0, .slice none 0 0, .slice none 0 0, .slice none 0 0, .slice none 0 0, .slice none 0 0, .int .u64 0] 34) = x2 := ew
              rw [ew']
              obtain ⟨b7, eb⟩ : ∃ b, x1.heap.size = b := ⟨_, rfl⟩
              have H7G := Lh (show wr.heap.size ≤ b7 from by rw [← eb]; exact BX1.out.size)
              have HNE := Lh (show b8 < b7 from by rw [← eb]; exact HP8.out.lt)
              have BX2 := Lh (BX1.out.trans (hb.mono BX1.out.size))
              have HP8 := Lh (HP8.out.below hb HP8.out.lt)
              rw [eb] at hg ⊢
              have HP7 := Lh hg
              clear hb hg ew ew' eb
              refine hQ.out _ _ ?_ (fun hH2 => ?_)
              · exact ⟨BX2.out, trivial⟩
              clear hQ K
              try simp only [Act.put, pA9, pZ9, pS9]
              refine wpAnyT_one 8 rfl (by kernel_rfl) (fun K hQ => ?_)
              rw [if_pos (by rfl)]
              go_simp
              (go_at_call 9; refine (HAP.out x2 BX2.out [b7, b8] (fun q hq => by simp only [List.mem_cons, List.not_mem_nil, or_false] at hq; rcases hq with rfl | rfl <;> first | exact ⟨H7G.out, HP7.out.lt⟩ | exact ⟨H8G.out, HP8.out.lt⟩)).mono ?_; rintro e x3 ⟨m', A', c', rfl, hin, hx', hb, hoff⟩)
              have BX3 := Lh (BX2.out.trans (hb.mono BX2.out.size))
              have HP8 := Lh (HP8.out.below hb HP8.out.lt)
              have HP7 := Lh (HP7.out.below hb HP7.out.lt)
              have HAI := Lh (show ApI wr ([b7, b8] ++ GG) m' x3 from ⟨BX3.out, hin, hoff⟩)
              have HX' := Lh hx'
              obtain ⟨mcs, emcs⟩ : ∃ mcs, m'.cs = mcs := ⟨_, rfl⟩
              have HMC := Lh emcs
              have HMZ := Lh (show mcs.size = 14 from by rw [← emcs]; rfl)
              have HMO := Lh (show mcs.toList.all (·.oneCell') = true from by rw [← emcs]; rfl)
              rw [emcs]
              obtain ⟨rr, err⟩ : ∃ rr, rcs (applyM plF m.x (k + 1) cm.x).2 A' c' = rr := ⟨_, rfl⟩
              have HRR := Lh err
              have HRZ := Lh (show rr.size = 4 from by rw [← err]; rfl)
              have HRO := Lh (show rr.toList.all (·.oneCell') = true from by rw [← err]; rfl)
              rw [err]
              clear hb hin hoff hx' emcs err
              refine hQ.out _ _ ?_ (fun hH3 => ?_)
              · exact ⟨BX3.out, trivial⟩
              clear hQ K
              try simp only [Act.put, pA9, pZ9, pS9]
              refine wpAnyT_stay 9 (v := ?_) rfl (by kernel_rfl) (fun _ _ _ h => h) (Or.inl ⟨by rfl, ?_⟩) ⟨hH3.1, fun _ => hH3.2⟩ ?_
              rotate_left
              · (intro wx hx; go_simp <;> with_reducible rfl)
              try simp only [Act.put, pA9, pZ9, pS9]
              refine wpAnyT_stay 10 (v := ?_) rfl (by kernel_rfl) (fun _ _ _ h => h) (Or.inl ⟨by rfl, ?_⟩) ⟨hH3.1, fun _ => hH3.2⟩ ?_
              rotate_left
              · (intro wx hx; go_simp <;> with_reducible rfl)
              try simp only [Act.put, pA9, pZ9, pS9]
              refine wpAnyT_stay 11 (v := ?_) rfl (by kernel_rfl) (fun _ _ _ h => h) (Or.inl ⟨by rfl, ?_⟩) ⟨hH3.1, fun _ => hH3.2⟩ ?_
              rotate_left
              · (intro wx hx; go_simp <;> with_reducible rfl)
              try simp only [Act.put, pA9, pZ9, pS9]
              refine wpAnyT_stay 12 (v := ?_) rfl (by kernel_rfl) (fun _ _ _ h => h) (Or.inl ⟨by rfl, ?_⟩) ⟨hH3.1, fun _ => hH3.2⟩ ?_
              rotate_left
              · (intro wx hx; go_simp <;> with_reducible rfl)
              try simp only [Act.put, pA9, pZ9, pS9]
              refine wpAnyT_one 15 rfl (by kernel_rfl) (fun K hQ => ?_)
              refine step_store_blk rfl 34 (.tmp 9) (.tmp 41) rfl b7 34 mZ mcs rfl rfl HP7.out (by rw [HMZ.out]; rfl) (by rw [HMZ.out]; exact Tryz.szSt) HMO.out ?_
              intro x4 hB4 hO4
              have BX4 := Lh (BX3.out.trans (hO4.out.below H7G.out))
              refine hQ.out _ _ ?_ (fun hH315 => ?_)
              · exact ⟨BX4.out, trivial⟩
              clear hQ K
              try simp only [Act.put, pA9, pZ9, pS9]
              refine wpAnyT_last 16 rfl (by kernel_rfl) (by decide) (fun K hQ => ?_)
              refine step_store_blk rfl 39 (.tmp 10) (.tmp 42) rfl b8 39 rZ rr rfl rfl (hO4.out.blk HP8.out (by have := HNE.out; omega)) (by rw [HRZ.out]; rfl) (by rw [HRZ.out]; exact Tryz.szR) HRO.out ?_
              intro x5 hB5 hO5
              have BX5 := Lh (BX4.out.trans (hO5.out.below H8G.out))
              refine hQ.out _ _ ?_ (fun hH316 => ?_)
              · exact BX5.out
              clear hQ K
              try simp only [Act.put, pA9, pZ9, pS9]
              refine wpAnyT_stay 17 (v := ?_) rfl (by kernel_rfl) (fun _ _ _ h => h) (Or.inl ⟨by rfl, ?_⟩) ⟨hH316, fun h => absurd h (by decide)⟩ ?_
              rotate_left
              · (intro wx hx; go_simp <;> with_reducible rfl)
              try simp only [Act.put, pA9, pZ9, pS9]
              refine wpAnyT_done (by kernel_rfl) ?_ _
              go_wp2_with fail
              go_meet
              case rel => exact ⟨b7, b8, m', rr, rfl, rfl, rfl, Lh (ApS.mk' ((HAI.out.store hO4.out (by simp) H7G.out).store hO5.out (by simp) H8G.out) (fun q hq => by simp [hq]) (by simp) (by simp) ⟨A', c', HRR.out.symm⟩ HX'.out (by rw [HMC.out]; exact hO5.out.blk hB4.out (by have := HNE.out; omega)) hB5.out H7G.out H8G.out)⟩
        case rest =>
          obtain ⟨bx, br, m', rr, rfl, rfl, rfl, HS⟩ := hcut
          obtain ⟨h1, h2, h3⟩ := apply_inv RW.out.run.inv (ix := k + 1) (by have := RW.out.run.last; omega) (by omega) cm.x
          have HST := Lh h2
          have hcnt := h2.cnt
          rw [h3] at hcnt
          have hpn : (applyM plF m.x (k + 1) cm.x).1.n = 3 := h2.n.trans HCN.out.2
          have hil := h2.il
          have HRES := Lh HS.out.res
          clear h1 h2 h3
          obtain ⟨kd, ekd⟩ : ∃ x, cm.x.kind = x := ⟨_, rfl⟩
          obtain ⟨rv, erv⟩ : ∃ x, (applyM plF m.x (k + 1) cm.x).2.version = x := ⟨_, rfl⟩
          obtain ⟨rc, erc⟩ : ∃ x, (applyM plF m.x (k + 1) cm.x).2.code = x := ⟨_, rfl⟩
          have hr0 : rr[0]? = some (.int .i64 rc) := by obtain ⟨A, c, e⟩ := HRES.out; rw [e, ← erc]; rfl
          have hr1 : rr[1]? = some (.int .u64 (rv : Int)) := by obtain ⟨A, c, e⟩ := HRES.out; rw [e, ← erv]; rfl
          have y0 := (HS.out.t8.cell 0).trans hr0
          have y1 := (HS.out.t8.cell 1).trans hr1
          have hkc : wr.cell? ((ad.add (k * 16)).add 0) = some (.int .i64 kd) := HC1.out 0 _ (by rw [← EKS.out, ← ekd]; rfl)
          have x0 := (HS.out.in_.bel.cell (p := (ad.add (k * 16)).add 0) (by rw [block_of_add, block_of_add]; exact HAD.out)).trans hkc
          have x0 : wc.cell? (ad.add (k * 16)) = some (.int .i64 kd) := by simpa [Addr.add] using x0
          have n1 : wc.cell? ⟨b3, 1, none⟩ = some (.int .i64 3) := ((HBS.out.below HS.out.in_.bel HBS.out.lt).cell 1).trans (by rw [← ECS.out, ← HCN.out.2]; rfl)
          obtain ⟨mcs, emcs⟩ : ∃ mcs, m'.cs = mcs := ⟨_, rfl⟩
          obtain ⟨no', eno⟩ : ∃ x, m'.x.objs.length = x := ⟨_, rfl⟩
          obtain ⟨ni', eni⟩ : ∃ x, m'.x.ints.length = x := ⟨_, rfl⟩
          obtain ⟨nw', enw⟩ : ∃ x, m'.x.wass.length = x := ⟨_, rfl⟩
          have hno' : no' ≤ 16777216 := by rw [← eno]; exact HS.out.in_.inn.wf.ol
          have hni' : ni' ≤ 16777216 := by rw [← eni]; exact HS.out.in_.inn.wf.il
          have hnw' : nw' ≤ 33554432 := by rw [← enw]; exact HS.out.in_.inn.wf.wl
          have hil' : ni' ≤ ni + 1 := by
            have := ENI.out
            rw [← eni, HS.out.eq, ← this]
            exact hil
          have hcm : cntM (applyM plF m.x (k + 1) cm.x).1 = 3 * ((no' : Int) + (ni' : Int)) + (nw' : Int) := by
            unfold cntM
            rw [hpn, ← HS.out.eq, eno, eni, enw]
          have HCM := Lh (show cntM m'.x = 3 * ((no' : Int) + (ni' : Int)) + (nw' : Int) from by rw [HS.out.eq]; exact hcm)
          have HPN := Lh (show m'.x.n = 3 from by rw [HS.out.eq]; exact hpn)
          have C1 := Lh (show mcs[1]? = some (.int .i64 3) from by rw [← emcs, ← hpn, ← HS.out.eq]; rfl)
          have C8 := Lh (show mcs[8]? = some (.slice m'.OA no' m'.oc) from by rw [← emcs, ← eno]; rfl)
          have C9 := Lh (show mcs[9]? = some (.slice m'.IA ni' m'.ic) from by rw [← emcs, ← eni]; rfl)
          have C11 := Lh (show mcs[11]? = some (.slice m'.WA nw' m'.wc) from by rw [← emcs, ← enw]; rfl)
          have HMC := Lh emcs
          have HMZ := Lh (show mcs.size = 14 from by rw [← emcs]; rfl)
          have HMO := Lh (show mcs.toList.all (·.oneCell') = true from by rw [← emcs]; rfl)
          have HT7 := Lh (show Blk wc bx 34 mcs from by rw [← emcs]; exact HS.out.t7)
          have HBc := Lh (HBS.out.below HS.out.in_.bel HBS.out.lt)
          have HKD := Lh ekd
          have d9 : decide ((ni' : Int) > (ni : Int) + 1) = false := decide_eq_false (by omega)
          have d9' : decide ((ni : Int) + 1 < (ni' : Int)) = false := decide_eq_false (by omega)
          unfold givenM goneN at hcnt
          dsimp only at hcnt
          rw [ekd, erv, erc, hcm, HCN.out.2] at hcnt
          have hcn := HCN.out.1
          clear emcs eno eni enw hil hil' hcm hpn erv erc ekd hr0 hr1 hkc HST HRES HAP HC1
          rcases (show (kd = 1 ∧ rv = k + 1 ∧ rc = 0) ∨ (kd = 1 ∧ rv ≠ k + 1) ∨ (kd = 1 ∧ rv = k + 1 ∧ rc ≠ 0) ∨ (kd = 6 ∧ rc = 1) ∨ (kd = 6 ∧ rc ≠ 1) ∨ (kd = 8 ∧ rc = 1) ∨ (kd = 8 ∧ rc ≠ 1) ∨ (kd ≠ 1 ∧ kd ≠ 6 ∧ kd ≠ 8) from by omega) with ⟨h1, h2, h3⟩ | ⟨h1, h2⟩ | ⟨h1, h2, h3⟩ | ⟨h1, h2⟩ | ⟨h1, h2⟩ | ⟨h1, h2⟩ | ⟨h1, h2⟩ | ⟨h1, h2, h3⟩
          · have hx : 3 * ((no' : Int) + (ni' : Int)) + (nw' : Int) + (gn) = gv + 3 := by split at hcnt <;> split at hcnt <;> split at hcnt <;> omega
            have e1 : (kd == 1) = true := by rw [h1]; rfl
            have e2 : ((rv : Int) == (q : Int)) = true := by rw [h2, HQ.out]; exact beq_self_eq_true _
            have e3 : (rc == 0) = true := by rw [h3]; rfl
            have e4 : (kd == 6) = false := by rw [h1]; rfl
            have e5 : (kd == 8) = false := by rw [h1]; rfl
            have z : (3 * ((no' : Int) + (ni' : Int)) + (nw' : Int) + gn != gv + 3) = false := by rw [hx]; simp
            have HX := Lh hx
            clear hcnt hcn hx h1 h2 h3
            go_upto_region 20 with (fail)
            go_upto_region 21 with (first
              | (refine wpl_load_blk rfl 34 (.tmp 9) rfl bx 34 mcs _ rfl HT7.out Tryz.underlying34 rfl (by rw [HMZ.out]; exact Tryz.szSt) ?_)
              | (refine wpl_store_blk rfl 34 (.tmp 3) (.tmp 97) rfl b3 34 cs mcs rfl rfl HBc.out (by rw [HCS.out, HMZ.out]) (by rw [HMZ.out]; exact Tryz.szSt) HMO.out ?_; intro we hBe hOe))
            have q1 := (hBe.out.cell 1).trans C1.out
            have q8 := (hBe.out.cell 8).trans C8.out
            have q9 := (hBe.out.cell 9).trans C9.out
            have q11 := (hBe.out.cell 11).trans C11.out
            clear y0 y1 x0 n1 e1 e2 e3 e4 e5
            go_wp2
            clear hw1 hw2
            exact ⟨⟨k + 1, m', gv + 3, gn, by omega, by rw [HQ.out], rfl, rfl, by omega, by omega, Lh (RW.out.next (by omega) HS.out (by rw [HMC.out]; exact hBe.out) hOe.out), Lh ⟨by rw [HCM.out]; exact HX.out, HPN.out⟩⟩, by have := HQ.out; simp [intOf]; omega⟩
          · have hx : 3 * ((no' : Int) + (ni' : Int)) + (nw' : Int) + (gn) = gv := by split at hcnt <;> split at hcnt <;> split at hcnt <;> omega
            have e1 : (kd == 1) = true := by rw [h1]; rfl
            have e2 : ((rv : Int) == (q : Int)) = false := by rw [beq_eq_false_iff_ne]; have := HQ.out; omega
            have e4 : (kd == 6) = false := by rw [h1]; rfl
            have e5 : (kd == 8) = false := by rw [h1]; rfl
            have z : (3 * ((no' : Int) + (ni' : Int)) + (nw' : Int) + gn != gv) = false := by rw [hx]; simp
            have HX := Lh hx
            clear hcnt hcn hx h1 h2
            go_upto_region 20 with (fail)
            go_upto_region 21 with (first
              | (refine wpl_load_blk rfl 34 (.tmp 9) rfl bx 34 mcs _ rfl HT7.out Tryz.underlying34 rfl (by rw [HMZ.out]; exact Tryz.szSt) ?_)
              | (refine wpl_store_blk rfl 34 (.tmp 3) (.tmp 97) rfl b3 34 cs mcs rfl rfl HBc.out (by rw [HCS.out, HMZ.out]) (by rw [HMZ.out]; exact Tryz.szSt) HMO.out ?_; intro we hBe hOe))
            have q1 := (hBe.out.cell 1).trans C1.out
            have q8 := (hBe.out.cell 8).trans C8.out
            have q9 := (hBe.out.cell 9).trans C9.out
            have q11 := (hBe.out.cell 11).trans C11.out
            clear y0 y1 x0 n1 e1 e2 e4 e5
            go_wp2
            clear hw1 hw2
            exact ⟨⟨k + 1, m', gv, gn, by omega, by rw [HQ.out], rfl, rfl, by omega, by omega, Lh (RW.out.next (by omega) HS.out (by rw [HMC.out]; exact hBe.out) hOe.out), Lh ⟨by rw [HCM.out]; exact HX.out, HPN.out⟩⟩, by have := HQ.out; simp [intOf]; omega⟩
          · have hx : 3 * ((no' : Int) + (ni' : Int)) + (nw' : Int) + (gn) = gv := by split at hcnt <;> split at hcnt <;> split at hcnt <;> omega
            have e1 : (kd == 1) = true := by rw [h1]; rfl
            have e2 : ((rv : Int) == (q : Int)) = true := by rw [h2, HQ.out]; exact beq_self_eq_true _
            have e3 : (rc == 0) = false := beq_eq_false_iff_ne.2 h3
            have e4 : (kd == 6) = false := by rw [h1]; rfl
            have e5 : (kd == 8) = false := by rw [h1]; rfl
            have z : (3 * ((no' : Int) + (ni' : Int)) + (nw' : Int) + gn != gv) = false := by rw [hx]; simp
            have HX := Lh hx
            clear hcnt hcn hx h1 h2 h3
            go_upto_region 20 with (fail)
            go_upto_region 21 with (first
              | (refine wpl_load_blk rfl 34 (.tmp 9) rfl bx 34 mcs _ rfl HT7.out Tryz.underlying34 rfl (by rw [HMZ.out]; exact Tryz.szSt) ?_)
              | (refine wpl_store_blk rfl 34 (.tmp 3) (.tmp 97) rfl b3 34 cs mcs rfl rfl HBc.out (by rw [HCS.out, HMZ.out]) (by rw [HMZ.out]; exact Tryz.szSt) HMO.out ?_; intro we hBe hOe))
            have q1 := (hBe.out.cell 1).trans C1.out
            have q8 := (hBe.out.cell 8).trans C8.out
            have q9 := (hBe.out.cell 9).trans C9.out
            have q11 := (hBe.out.cell 11).trans C11.out
            clear y0 y1 x0 n1 e1 e2 e3 e4 e5
            go_wp2
            clear hw1 hw2
            exact ⟨⟨k + 1, m', gv, gn, by omega, by rw [HQ.out], rfl, rfl, by omega, by omega, Lh (RW.out.next (by omega) HS.out (by rw [HMC.out]; exact hBe.out) hOe.out), Lh ⟨by rw [HCM.out]; exact HX.out, HPN.out⟩⟩, by have := HQ.out; simp [intOf]; omega⟩
          · have hx : 3 * ((no' : Int) + (ni' : Int)) + (nw' : Int) + (gn) = gv + 3 := by split at hcnt <;> split at hcnt <;> split at hcnt <;> omega
            have e1 : (kd == 1) = false := by rw [h1]; rfl
            have e4 : (kd == 6) = true := by rw [h1]; rfl
            have e2 : (rc == 1) = true := by rw [h2]; rfl
            have e5 : (kd == 8) = false := by rw [h1]; rfl
            have z : (3 * ((no' : Int) + (ni' : Int)) + (nw' : Int) + gn != gv + 3) = false := by rw [hx]; simp
            have HX := Lh hx
            clear hcnt hcn hx h1 h2
            go_upto_region 20 with (fail)
            go_upto_region 21 with (first
              | (refine wpl_load_blk rfl 34 (.tmp 9) rfl bx 34 mcs _ rfl HT7.out Tryz.underlying34 rfl (by rw [HMZ.out]; exact Tryz.szSt) ?_)
              | (refine wpl_store_blk rfl 34 (.tmp 3) (.tmp 97) rfl b3 34 cs mcs rfl rfl HBc.out (by rw [HCS.out, HMZ.out]) (by rw [HMZ.out]; exact Tryz.szSt) HMO.out ?_; intro we hBe hOe))
            have q1 := (hBe.out.cell 1).trans C1.out
            have q8 := (hBe.out.cell 8).trans C8.out
            have q9 := (hBe.out.cell 9).trans C9.out
            have q11 := (hBe.out.cell 11).trans C11.out
            clear y0 y1 x0 n1 e1 e4 e2 e5
            go_wp2
            clear hw1 hw2
            exact ⟨⟨k + 1, m', gv + 3, gn, by omega, by rw [HQ.out], rfl, rfl, by omega, by omega, Lh (RW.out.next (by omega) HS.out (by rw [HMC.out]; exact hBe.out) hOe.out), Lh ⟨by rw [HCM.out]; exact HX.out, HPN.out⟩⟩, by have := HQ.out; simp [intOf]; omega⟩
          · have hx : 3 * ((no' : Int) + (ni' : Int)) + (nw' : Int) + (gn) = gv := by split at hcnt <;> split at hcnt <;> split at hcnt <;> omega
            have e1 : (kd == 1) = false := by rw [h1]; rfl
            have e4 : (kd == 6) = true := by rw [h1]; rfl
            have e2 : (rc == 1) = false := beq_eq_false_iff_ne.2 h2
            have e5 : (kd == 8) = false := by rw [h1]; rfl
            have z : (3 * ((no' : Int) + (ni' : Int)) + (nw' : Int) + gn != gv) = false := by rw [hx]; simp
            have HX := Lh hx
            clear hcnt hcn hx h1 h2
            go_upto_region 20 with (fail)
            go_upto_region 21 with (first
              | (refine wpl_load_blk rfl 34 (.tmp 9) rfl bx 34 mcs _ rfl HT7.out Tryz.underlying34 rfl (by rw [HMZ.out]; exact Tryz.szSt) ?_)
              | (refine wpl_store_blk rfl 34 (.tmp 3) (.tmp 97) rfl b3 34 cs mcs rfl rfl HBc.out (by rw [HCS.out, HMZ.out]) (by rw [HMZ.out]; exact Tryz.szSt) HMO.out ?_; intro we hBe hOe))
            have q1 := (hBe.out.cell 1).trans C1.out
            have q8 := (hBe.out.cell 8).trans C8.out
            have q9 := (hBe.out.cell 9).trans C9.out
            have q11 := (hBe.out.cell 11).trans C11.out
            clear y0 y1 x0 n1 e1 e4 e2 e5
            go_wp2
            clear hw1 hw2
            exact ⟨⟨k + 1, m', gv, gn, by omega, by rw [HQ.out], rfl, rfl, by omega, by omega, Lh (RW.out.next (by omega) HS.out (by rw [HMC.out]; exact hBe.out) hOe.out), Lh ⟨by rw [HCM.out]; exact HX.out, HPN.out⟩⟩, by have := HQ.out; simp [intOf]; omega⟩
          · have hx : 3 * ((no' : Int) + (ni' : Int)) + (nw' : Int) + (gn + 1) = gv := by split at hcnt <;> split at hcnt <;> split at hcnt <;> omega
            have e1 : (kd == 1) = false := by rw [h1]; rfl
            have e4 : (kd == 6) = false := by rw [h1]; rfl
            have e2 : (rc == 1) = true := by rw [h2]; rfl
            have e5 : (kd == 8) = true := by rw [h1]; rfl
            have z : (3 * ((no' : Int) + (ni' : Int)) + (nw' : Int) + (gn + 1) != gv) = false := by rw [hx]; simp
            have HX := Lh hx
            clear hcnt hcn hx h1 h2
            go_upto_region 20 with (fail)
            go_upto_region 21 with (first
              | (refine wpl_load_blk rfl 34 (.tmp 9) rfl bx 34 mcs _ rfl HT7.out Tryz.underlying34 rfl (by rw [HMZ.out]; exact Tryz.szSt) ?_)
              | (refine wpl_store_blk rfl 34 (.tmp 3) (.tmp 97) rfl b3 34 cs mcs rfl rfl HBc.out (by rw [HCS.out, HMZ.out]) (by rw [HMZ.out]; exact Tryz.szSt) HMO.out ?_; intro we hBe hOe))
            have q1 := (hBe.out.cell 1).trans C1.out
            have q8 := (hBe.out.cell 8).trans C8.out
            have q9 := (hBe.out.cell 9).trans C9.out
            have q11 := (hBe.out.cell 11).trans C11.out
            clear y0 y1 x0 n1 e1 e4 e2 e5
            go_wp2
            clear hw1 hw2
            exact ⟨⟨k + 1, m', gv, gn + 1, by omega, by rw [HQ.out], rfl, rfl, by omega, by omega, Lh (RW.out.next (by omega) HS.out (by rw [HMC.out]; exact hBe.out) hOe.out), Lh ⟨by rw [HCM.out]; exact HX.out, HPN.out⟩⟩, by have := HQ.out; simp [intOf]; omega⟩
          · have hx : 3 * ((no' : Int) + (ni' : Int)) + (nw' : Int) + (gn) = gv := by split at hcnt <;> split at hcnt <;> split at hcnt <;> omega
            have e1 : (kd == 1) = false := by rw [h1]; rfl
            have e4 : (kd == 6) = false := by rw [h1]; rfl
            have e2 : (rc == 1) = false := beq_eq_false_iff_ne.2 h2
            have e5 : (kd == 8) = true := by rw [h1]; rfl
            have z : (3 * ((no' : Int) + (ni' : Int)) + (nw' : Int) + gn != gv) = false := by rw [hx]; simp
            have HX := Lh hx
            clear hcnt hcn hx h1 h2
            go_upto_region 20 with (fail)
            go_upto_region 21 with (first
              | (refine wpl_load_blk rfl 34 (.tmp 9) rfl bx 34 mcs _ rfl HT7.out Tryz.underlying34 rfl (by rw [HMZ.out]; exact Tryz.szSt) ?_)
              | (refine wpl_store_blk rfl 34 (.tmp 3) (.tmp 97) rfl b3 34 cs mcs rfl rfl HBc.out (by rw [HCS.out, HMZ.out]) (by rw [HMZ.out]; exact Tryz.szSt) HMO.out ?_; intro we hBe hOe))
            have q1 := (hBe.out.cell 1).trans C1.out
            have q8 := (hBe.out.cell 8).trans C8.out
            have q9 := (hBe.out.cell 9).trans C9.out
            have q11 := (hBe.out.cell 11).trans C11.out
            clear y0 y1 x0 n1 e1 e4 e2 e5
            go_wp2
            clear hw1 hw2
            exact ⟨⟨k + 1, m', gv, gn, by omega, by rw [HQ.out], rfl, rfl, by omega, by omega, Lh (RW.out.next (by omega) HS.out (by rw [HMC.out]; exact hBe.out) hOe.out), Lh ⟨by rw [HCM.out]; exact HX.out, HPN.out⟩⟩, by have := HQ.out; simp [intOf]; omega⟩
          · have hx : 3 * ((no' : Int) + (ni' : Int)) + (nw' : Int) + (gn) = gv := by split at hcnt <;> split at hcnt <;> split at hcnt <;> omega
            have e1 : (kd == 1) = false := beq_eq_false_iff_ne.2 h1
            have e4 : (kd == 6) = false := beq_eq_false_iff_ne.2 h2
            have e5 : (kd == 8) = false := beq_eq_false_iff_ne.2 h3
            have z : (3 * ((no' : Int) + (ni' : Int)) + (nw' : Int) + gn != gv) = false := by rw [hx]; simp
            have HX := Lh hx
            clear hcnt hcn hx h1 h2 h3
            go_upto_region 20 with (fail)
            go_upto_region 21 with (first
              | (refine wpl_load_blk rfl 34 (.tmp 9) rfl bx 34 mcs _ rfl HT7.out Tryz.underlying34 rfl (by rw [HMZ.out]; exact Tryz.szSt) ?_)
              | (refine wpl_store_blk rfl 34 (.tmp 3) (.tmp 97) rfl b3 34 cs mcs rfl rfl HBc.out (by rw [HCS.out, HMZ.out]) (by rw [HMZ.out]; exact Tryz.szSt) HMO.out ?_; intro we hBe hOe))
            have q1 := (hBe.out.cell 1).trans C1.out
            have q8 := (hBe.out.cell 8).trans C8.out
            have q9 := (hBe.out.cell 9).trans C9.out
            have q11 := (hBe.out.cell 11).trans C11.out
            clear y0 y1 x0 n1 e1 e4 e5
            go_wp2
            clear hw1 hw2
            exact ⟨⟨k + 1, m', gv, gn, by omega, by rw [HQ.out], rfl, rfl, by omega, by omega, Lh (RW.out.next (by omega) HS.out (by rw [HMC.out]; exact hBe.out) hOe.out), Lh ⟨by rw [HCM.out]; exact HX.out, HPN.out⟩⟩, by have := HQ.out; simp [intOf]; omega⟩
      · obtain rfl : n = k := by omega
        go_wp2_with (go_at_call 7; refine (HHD.out wr).mono ?_; rintro e w9 ⟨rfl, hb9⟩; have HB9 := Lh hb9; clear hb9)
        go_ret
        exact ⟨rfl, RW.out.bel.trans (HB9.out.mono RW.out.bel.size)⟩
  · have d1 : decide ((n : Int) > 150) = true := decide_eq_true (by omega)
    have d2 : decide (150 < (n : Int)) = true := decide_eq_true (by omega)
    have d3 : decide (150 < n) = true := decide_eq_true (by omega)
    go_enter Tryz.func3, Tryz.ntmps3
    go_wp2_with (go_at_call 7; refine (HHD.out w).mono ?_; rintro e w9 ⟨rfl, hb9⟩)
    go_ret
    exact ⟨rfl, hb9⟩
set_option maxRecDepth 100000 in
theorem walk_MetaCounts {H : Type} {enc : TypeId × Value → H} (W : World) {base : Nat} (v : Value) (d : DataW H) (p : List MemPlace) (h : DataW.Trod enc Tryz.prog W 0 (fun _ => true) true 22 v d p) (hok : Value.okWide Tryz.prog W .any base 22 v) :
    Calls Tryz.prog 3 #[v] W fun e W' => e = .returned (.bool true) ∧ Below W.heap.size W W' := by
  obtain ⟨A0, len0, cap0, rfl⟩ := Go.WideShapes.okWide_slice Tryz.underlying22 hok
  obtain ⟨fuel, hf⟩ := h
  have hv : (Value.slice A0 len0 cap0).cells.toList = [.slice A0 len0 cap0] := rfl
  rw [hv] at hf
  obtain ⟨A, n, cap, es, e, hr, hl, he, hc, hm⟩ := open_cms hf
  injection e with e1 e2 e3
  subst e1 e2 e3
  exact counts_any A0 len0 cap0 es W (Lh hr) (Lh hl) (Lh he)
namespace metaCounts
open Go.ChangeShapes Go.WideShapes Go.ChangeAt Go.RowKit
open Go.ChangeMaps (open_string shut_string)
set_option linter.unusedVariables false
theorem own : ownKnob Tryz.prog.godebug = none := by kernel_rfl
theorem laidOut : laidOutB Tryz.prog = true := by kernel_rfl
set_option maxRecDepth 100000 in
theorem contract (H : Type) (enc : TypeId × Value → H) (W : World) (base : Nat) (args : Array Value) (ds gs : List (DataW H)) (before : List MemPlace)
    (hval0 : ∀ (j : Nat) t v, Tryz.f3.params[j]? = some t → args[j]? = some v → Value.okWide Tryz.prog W .any base t v)
    (hW : DataW.Whole enc Tryz.prog Tryz.f3.params.toList Rows.metaCountsSpec.vars false W args.toList ds gs before) :
    Calls Tryz.prog 3 args W fun e W' => ∃ v, e = .returned v ∧ Rows.metaCountsSpec.post enc Tryz.prog Tryz.f3 false true false false W args v W' := by
  have hval : ∀ (j : Nat) t v, Tryz.f3.params[j]? = some t → args[j]? = some v → Value.okWide Tryz.prog W .any base t v := hval0
  have hW' := hW
  obtain ⟨p, q, hA0, hV, rfl, hfz, hnd⟩ := hW
  have hA : DataW.TrodAll enc Tryz.prog W 0 (fun _ => true) true Tryz.f3.params.toList args.toList ds p := hA0
  rw [Tryz.params3] at hA hval
  obtain ⟨v0, vs0, d0, ds0, p0, q0, hargs, rfl, rfl, h0, r0⟩ := trodAll_cons hA
  obtain ⟨rfl, rfl, rfl⟩ := trodAll_nil r0
  obtain rfl : args = #[v0] := by cases args; simp_all
  obtain ⟨rfl, rfl⟩ := trodVars_none hV
  have k0 := h0
  have lt0 : ∀ x ∈ p0, x.block < W.heap.size := by obtain ⟨m, hm⟩ := k0; exact DataW.trod_lt m _ _ _ hm
  clear hA0 hval0
  refine (walk_MetaCounts W v0 d0 p0 h0 (hval 0 22 v0 rfl rfl)).mono fun e W' ⟨he, bel⟩ => ?_
  subst he
  exact ⟨_, rfl, _, _, _, [], _, [], hW', trodAll_mk1 (shut_bool Tryz.underlying4 _), (trodAll_cons_mk (Below.trod laidOut (by kernel_rfl) (of_decide_eq_true (by kernel_rfl)) k0 bel lt0) trodAll_mk0), rfl, bel.frame _, fun h => by cases h⟩
set_option maxRecDepth 100000 in
theorem lifted (os : Os) (started : os.Started) (H : Type) (enc : TypeId × Value → H) :
    ReturnsInHanded {} Tryz.checked os 3 .any (Rows.metaCountsSpec.pre6 enc Tryz.prog Tryz.f3 Rows.metaCountsRow.domain false) (Rows.metaCountsSpec.post enc Tryz.prog Tryz.f3 false true false false) := by
  refine returnsInHanded_of_change (C := Tryz.checked) own started (by kernel_rfl) Tryz.func3
    (ChangeSpec.witness6 (enc := enc) (C := Tryz.checked) false ⟨#[], #[.slice none 0 0], []⟩ 8 (by kernel_rfl) (by kernel_rfl) (by kernel_rfl) (by kernel_rfl)) ?_
  intro W base args ds gs before hval hW _ _
  exact contract H enc W base args ds gs before hval hW
theorem over : Rows.metaCountsRow.holds Tryz.pinned (OpenSpec.ofChange Rows.metaCountsSpec) :=
  OpenClaim.holds_of_wide 3 Tryz.f3 rfl rfl rfl rfl rfl rfl rfl ⟨rfl, rfl, rfl, rfl, rfl⟩ rfl rfl rfl rfl rfl (by kernel_rfl) Tryz.func3 (by kernel_rfl)
    (of_decide_eq_true (by kernel_rfl)) (by unfold Func.isWrapper; first | (rw [if_pos (by decide +kernel)]; kernel_rfl) | (rw [if_neg (by decide +kernel)]; exact ⟨rfl, rfl⟩))
    (fun os started H enc _ => lifted os started H enc)
theorem proved : Rows.MetaCountsSaid := over
end metaCounts
end Go.Proofs.YtdoneomahlfkbaaGreat
