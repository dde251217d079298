/-
  reduce.
-/
import Derived.Test.YtebpaafofombaaaMxW15
namespace Go.Proofs.Ytebpaafofombaaa
open Go.RowKit GfMath MxMath
set_option linter.unusedVariables false
theorem row_own {w : World} {base g c r n i : Nat} {M : Mat} {D : Option Addr} {d : Nat} (h : OwnM w base (.slice (some ⟨g, 0, none⟩) r c) (lmat r n M)) (hi : i < r) (hc : w.cell? ⟨g, i, none⟩ = some (.slice D n d)) : w.ownsRow base 5 1 (.slice D n d) n ((lrow n (M i)).map bv) := by
  obtain ⟨D', d', h1, _, _, _, h2⟩ := h.cell hi
  rw [hc] at h1
  cases h1
  exact h2
theorem piv1_row (i d : Nat) (M : Mat) (q : Nat) : piv1 i d M q = if q = d then M i else if q = i then M d else M q := by
  funext j
  unfold piv1
  rw [swp_act]
  by_cases e : q = i
  · subst e
    by_cases e2 : q = d
    · subst e2; simp
    · simp [e2]
  · by_cases e2 : q = d
    · subst e2; simp [e]
    · simp [e, e2]
theorem fnz_is {L : Mat} {col : Nat} : ∀ {c i0 i : Nat}, (∀ q, i0 ≤ q → q < i → L q col = 0) → L i col ≠ 0 → i0 ≤ i → i < i0 + c → fnz L col c i0 = some i := by
  intro c
  induction c with
  | zero => intro i0 i _ _ h1 h2; omega
  | succ c ih =>
    intro i0 i hz hn h1 h2
    rw [fnz]
    by_cases e : i0 = i
    · subst e
      rw [if_pos (show (L i0 col).v ≠ 0 from fun h => hn (El.ext' h))]
    · rw [if_neg (show ¬ (L i0 col).v ≠ 0 from fun h => h (congrArg El.v (hz i0 (Nat.le_refl _) (by omega))))]
      exact ih (fun q hq hqi => hz q (by omega) hqi) hn (by omega) (by omega)
theorem fnz_not {L : Mat} {col : Nat} : ∀ {c i0 : Nat}, (∀ q, i0 ≤ q → q < i0 + c → L q col = 0) → fnz L col c i0 = none := by
  intro c
  induction c with
  | zero => intro i0 _; rfl
  | succ c ih =>
    intro i0 hz
    rw [fnz, if_neg (show ¬ (L i0 col).v ≠ 0 from fun h => h (congrArg El.v (hz i0 (Nat.le_refl _) (by omega))))]
    exact ih fun q hq hqi => hz q (by omega) (by omega)
theorem red_le (r : Nat) (L R : Mat) (k : Nat) : (red r ⟨0, L, R⟩ k).d ≤ r := (tracks_red r L R k).1
set_option maxRecDepth 100000 in
set_option maxHeartbeats 1000000 in
theorem reduce_any (w0 w : World) (g c g' c' r n n' cols : Nat) (L R : Mat) (hT : Hid (Two w0 w g c g' c' r n n' L R w)) (hcols : cols ≤ n) (r1 : r ≤ 255) (n1 : n ≤ 255) (n1' : n' ≤ 255) (hc : r ≤ c) (hc' : r ≤ c') (hm : c ≤ maxLen) (hm' : c' ≤ maxLen) :
    Calls Try.prog 35 #[.agg #[.slice (some ⟨g, 0, none⟩) r c, .slice (some ⟨g', 0, none⟩) r c'], .int .i64 cols] w fun e w' => e = .returned (.int .i64 (red r ⟨0, L, R⟩ cols).d) ∧ Two w0 w g c g' c' r n n' (red r ⟨0, L, R⟩ cols).L (red r ⟨0, L, R⟩ cols).R w' := by
  have hMC := Lib.hid hm
  have hMC' := Lib.hid hm'
  unfold maxLen at hm hm'
  have hB := Blk.new w 65 #[.slice (some ⟨g, 0, none⟩) r c, .slice (some ⟨g', 0, none⟩) r c']
  have hT1 := Lib.hid (hT.out.later ((Below.refl _ _).alloc (Nat.le_refl _) (.cells #[.slice (some ⟨g, 0, none⟩) r c, .slice (some ⟨g', 0, none⟩) r c'] 65)))
  obtain ⟨w2, hw2⟩ : ∃ w2, w.alloc (.cells #[.slice (some ⟨g, 0, none⟩) r c, .slice (some ⟨g', 0, none⟩) r c'] 65) = w2 := ⟨_, rfl⟩
  have hT2 : Hid (Two w0 w2 g c g' c' r n n' L R w2) := Lib.hid (by rw [← hw2]; exact hT1.out.since)
  have hOth : Hid (Others w w2) := Lib.hid (by rw [← hw2]; exact hT1.out.oth)
  rw [hw2] at hB
  have hB2 := Lib.hid hB
  clear hB hT1
  go_enter Try.func35, Try.ntmps35
  go_wp2
  clear hw2
  obtain ⟨bx, hbx⟩ : ∃ bx, w.heap.size = bx := ⟨_, rfl⟩
  rw [hbx] at hB2 ⊢
  clear hbx
  go_loopw [5, 6, 7] (fun vd vc _ wr => ∃ k : Nat, k ≤ cols ∧ vc = .int .i64 k ∧ vd = .int .i64 (red r ⟨0, L, R⟩ k).d ∧ Hid (Two w0 w2 g c g' c' r n n' (red r ⟨0, L, R⟩ k).L (red r ⟨0, L, R⟩ k).R wr)) (fun _ vc _ _ => cols - (intOf vc).toNat)
  case atStart => exact ⟨0, by omega, rfl, rfl, hT2⟩
  case round =>
    obtain ⟨k, hk, rfl, rfl, hTk⟩ := hrel
    clear hT2
    have hdle := red_le r L R k
    by_cases hlt : k < cols
    · obtain ⟨s, hs⟩ : ∃ s, red r ⟨0, L, R⟩ k = s := ⟨_, rfl⟩
      have hsucc : Hid (red r ⟨0, L, R⟩ (k + 1) = stp r k s) := Lib.hid (by rw [← hs]; rfl)
      rw [hs] at hTk hdle ⊢
      clear hs
      obtain ⟨wo, rfl⟩ : ∃ wo : World, wo = wr := ⟨_, rfl⟩
      have hkn : k < n := by omega
      go_wp2
      go_loopw [5, 7] (fun vd vi w' => ∃ i : Nat, s.d ≤ i ∧ i ≤ r ∧ vi = .int .i64 i ∧ vd = .int .i64 s.d ∧ w' = wo ∧ Hid (∀ q, s.d ≤ q → q < i → s.L q k = 0)) (fun _ vi _ => r - (intOf vi).toNat)
      case atStart => exact ⟨s.d, Nat.le_refl _, hdle, rfl, rfl, rfl, Lib.hid (fun q h1 h2 => by omega)⟩
      case round =>
        obtain ⟨i, hdi, hir', rfl, rfl, rfl, hzz⟩ := hrel
        have hBr := Lib.hid (hTk.out.oth _ _ _ (by decide) hB2.out)
        have z0 := hBr.out.cell 0
        have z1 := hBr.out.cell 1
        by_cases hir : i < r
        · obtain ⟨Dk, dk, u1, -, u3, u4, u5⟩ := hTk.out.lo.cell hir
          obtain ⟨ak, rfl, _, hcell⟩ := (Reads.of_own u5).elem hkn
          clear u5
          unfold maxLen at u4
          by_cases hz : (s.L i k).v = 0
          · have H2 := Lib.hid (show ∀ q, s.d ≤ q → q < i + 1 → s.L q k = 0 from fun q h1 h2 => by
              by_cases e : q = i
              · subst e; exact El.ext' hz
              · exact hzz.out q h1 (by omega))
            rw [hz] at hcell
            clear hz hzz
            go_wp2
            exact ⟨⟨i + 1, by omega, by omega, by go_num, rfl, (by first | rfl | trivial), H2⟩, by simp [intOf]; omega⟩
          · have hdr : s.d < r := by omega
            have hne : Hid (s.L i k ≠ 0) := Lib.hid (fun e => hz (congrArg El.v e))
            have hstp : Hid (stp r k s = ⟨s.d + 1, piv3 s.d (fun q => piv2 s.d (piv1 i s.d s.L s.d k) (piv1 i s.d s.L) q k) (piv2 s.d (piv1 i s.d s.L s.d k) (piv1 i s.d s.L)),
                piv3 s.d (fun q => piv2 s.d (piv1 i s.d s.L s.d k) (piv1 i s.d s.L) q k) (piv2 s.d (piv1 i s.d s.L s.d k) (piv1 i s.d s.R))⟩) := Lib.hid (stp_some (fnz_is hzz.out hne.out hdi (by omega)))
            have hpv : piv1 i s.d s.L s.d k ≠ 0 := by rw [piv1_row, if_pos rfl]; exact hne.out
            have HPV := Lib.hid hpv
            have e5 : (((s.L i k).v : Int) != 0) = true := by simp; omega
            have e6 : (((s.L i k).v : Int) == 0) = false := by simp; omega
            have hTr := Lib.hid hTk.out
            clear hz hpv hzz hTk
            go_wp2
            clear z0 z1 u1
            have y0 := hBr.out.cell 0
            have y1 := hBr.out.cell 1
            obtain ⟨Di, di, u1, -⟩ := hTr.out.lo.cell hir
            obtain ⟨Dd, dd, v1, -⟩ := hTr.out.lo.cell hdr
            refine wp_region_late (S0 := fun w' => w'.cell? ⟨bx, 0, none⟩ = some (.slice (some ⟨g, 0, none⟩) r c) ∧ w'.cell? ⟨bx, 1, none⟩ = some (.slice (some ⟨g', 0, none⟩) r c')) (S := fun w' => w'.cell? ⟨bx, 0, none⟩ = some (.slice (some ⟨g, 0, none⟩) r c) ∧ w'.cell? ⟨bx, 1, none⟩ = some (.slice (some ⟨g', 0, none⟩) r c') ∧ w'.cell? ⟨g, i, none⟩ = some (.slice Di n di) ∧ w'.cell? ⟨g, s.d, none⟩ = some (.slice Dd n dd)) 17 20 (by kernel_rfl) rfl ⟨⟨y0, y1⟩, y0, y1, u1, v1⟩ (fun wd hwd hH => ?_)
            have hTd := Lib.hid (show Two w0 w2 g c g' c' r n n' s.L s.R wd from by rw [hwd]; exact hTr.out.later ((Below.refl _ _).drew))
            clear hwd hTr hcell y0 y1 u1 v1 hBr
            have HI := Lib.hid (row_own hTd.out.lo hir hH.2.2.2.1)
            have HD := Lib.hid (row_own hTd.out.lo hdr hH.2.2.2.2)
            have hT1 := Lib.hid (hTd.out.putL hir (f := s.L s.d) (K := (fun q => if q = i then s.L s.d else s.L q)) HD.out (fun q => rfl))
            have hT2 := Lib.hid (hT1.out.putL hdr (f := s.L i) (K := piv1 i s.d s.L) (own_far (p := ⟨g, i, none⟩) HI.out (row_far hTd.out.lo HI.out) _) (fun q => piv1_row i s.d s.L q))
            have hB1 := hT1.out.oth _ _ _ (by decide) hB2.out
            have hB3 := hT2.out.oth _ _ _ (by decide) hB2.out
            have a0 := hB1.cell 0
            have a1 := hB1.cell 1
            have b0 := hB3.cell 0
            have b1 := hB3.cell 1
            obtain ⟨_, _, c1, f1, -⟩ := hTd.out.lo.cell hir
            obtain ⟨_, _, c2, f2, -⟩ := hT1.out.lo.cell hdr
            have hBr := Lib.hid hB3
            clear hB1 hB3
            refine wpAnyT_stay 0 (v := ?_) rfl (by kernel_rfl) (fun _ _ _ h => h) (Or.inl ⟨by rfl, ?_⟩) ⟨hH.1, fun _ => hH.2⟩ ?_
            rotate_left
            · (intro wx hx; obtain ⟨_, _⟩ := hx; go_simp <;> with_reducible rfl)
            try simp only [Act.put, List.setIfInBounds_toArray, List.set_cons_zero, List.set_cons_succ]
            refine wpAnyT_stay 1 (v := ?_) rfl (by kernel_rfl) (fun _ _ _ h => h) (Or.inl ⟨by rfl, ?_⟩) ⟨hH.1, fun _ => hH.2⟩ ?_
            rotate_left
            · (intro wx hx; obtain ⟨_, _⟩ := hx; go_simp <;> with_reducible rfl)
            try simp only [Act.put, List.setIfInBounds_toArray, List.set_cons_zero, List.set_cons_succ]
            refine wpAnyT_stay 2 (v := ?_) rfl (by kernel_rfl) (fun _ _ _ h => h) (Or.inl ⟨by rfl, ?_⟩) ⟨hH.1, fun _ => hH.2⟩ ?_
            rotate_left
            · (intro wx hx; obtain ⟨_, _⟩ := hx; go_simp <;> with_reducible rfl)
            try simp only [Act.put, List.setIfInBounds_toArray, List.set_cons_zero, List.set_cons_succ]
            refine wpAnyT_stay 3 (v := ?_) rfl (by kernel_rfl) (fun _ _ _ h => h) (Or.inl ⟨by rfl, ?_⟩) ⟨hH.1, fun _ => hH.2⟩ ?_
            rotate_left
            · (intro wx hx; obtain ⟨_, _⟩ := hx; go_simp <;> with_reducible rfl)
            try simp only [Act.put, List.setIfInBounds_toArray, List.set_cons_zero, List.set_cons_succ]
            refine wpAnyT_stay 4 (v := ?_) rfl (by kernel_rfl) (fun _ _ _ h => h) (Or.inl ⟨by rfl, ?_⟩) ⟨hH.1, fun _ => hH.2⟩ ?_
            rotate_left
            · (intro wx hx; obtain ⟨_, _⟩ := hx; go_simp <;> with_reducible rfl)
            try simp only [Act.put, List.setIfInBounds_toArray, List.set_cons_zero, List.set_cons_succ]
            refine wpAnyT_stay 5 (v := ?_) rfl (by kernel_rfl) (fun _ _ _ h => h) (Or.inl ⟨by rfl, ?_⟩) ⟨hH.1, fun _ => hH.2⟩ ?_
            rotate_left
            · (intro wx hx; obtain ⟨_, _⟩ := hx; go_simp <;> with_reducible rfl)
            try simp only [Act.put, List.setIfInBounds_toArray, List.set_cons_zero, List.set_cons_succ]
            refine wpAnyT_stay 6 (v := ?_) rfl (by kernel_rfl) (fun _ _ _ h => h) (Or.inl ⟨by rfl, ?_⟩) ⟨hH.1, fun _ => hH.2⟩ ?_
            rotate_left
            · (intro wx hx; obtain ⟨_, _⟩ := hx; go_simp <;> with_reducible rfl)
            try simp only [Act.put, List.setIfInBounds_toArray, List.set_cons_zero, List.set_cons_succ]
            refine wpAnyT_stay 7 (v := ?_) rfl (by kernel_rfl) (fun _ _ _ h => h) (Or.inl ⟨by rfl, ?_⟩) ⟨hH.1, fun _ => hH.2⟩ ?_
            rotate_left
            · (intro wx hx; obtain ⟨_, _⟩ := hx; go_simp <;> with_reducible rfl)
            try simp only [Act.put, List.setIfInBounds_toArray, List.set_cons_zero, List.set_cons_succ]
            refine wpAnyT_stay 8 (v := ?_) rfl (by kernel_rfl) (fun _ _ _ h => h) (Or.inl ⟨by rfl, ?_⟩) ⟨hH.1, fun _ => hH.2⟩ ?_
            rotate_left
            · (intro wx hx; obtain ⟨_, _⟩ := hx; go_simp <;> with_reducible rfl)
            try simp only [Act.put, List.setIfInBounds_toArray, List.set_cons_zero, List.set_cons_succ]
            refine wpAnyT_stay 9 (v := ?_) rfl (by kernel_rfl) (fun _ _ _ h => h) (Or.inl ⟨by rfl, ?_⟩) ⟨hH.1, fun _ => hH.2⟩ ?_
            rotate_left
            · (intro wx hx; obtain ⟨_, _⟩ := hx; go_simp <;> with_reducible rfl)
            try simp only [Act.put, List.setIfInBounds_toArray, List.set_cons_zero, List.set_cons_succ]
            refine wpAnyT_take 10 (v := ?_) rfl (by kernel_rfl) (fun _ _ _ h => h) (Or.inl ⟨by rfl, ?_⟩) hH ?_
            rotate_left
            · (intro wx hx; obtain ⟨_, _, _, _⟩ := hx; go_simp <;> with_reducible rfl)
            try simp only [Act.put, List.setIfInBounds_toArray, List.set_cons_zero, List.set_cons_succ]
            refine wpAnyT_stay 11 (v := ?_) rfl (by kernel_rfl) (fun _ _ _ h => h) (Or.inl ⟨by rfl, ?_⟩) ⟨hH.1, fun _ => hH.2⟩ ?_
            rotate_left
            · (intro wx hx; obtain ⟨_, _⟩ := hx; go_simp <;> with_reducible rfl)
            try simp only [Act.put, List.setIfInBounds_toArray, List.set_cons_zero, List.set_cons_succ]
            refine wpAnyT_stay 12 (v := ?_) rfl (by kernel_rfl) (fun _ _ _ h => h) (Or.inl ⟨by rfl, ?_⟩) ⟨hH.1, fun _ => hH.2⟩ ?_
            rotate_left
            · (intro wx hx; obtain ⟨_, _⟩ := hx; go_simp <;> with_reducible rfl)
            try simp only [Act.put, List.setIfInBounds_toArray, List.set_cons_zero, List.set_cons_succ]
            refine wpAnyT_stay 13 (v := ?_) rfl (by kernel_rfl) (fun _ _ _ h => h) (Or.inl ⟨by rfl, ?_⟩) ⟨hH.1, fun _ => hH.2⟩ ?_
            rotate_left
            · (intro wx hx; obtain ⟨_, _⟩ := hx; go_simp <;> with_reducible rfl)
            try simp only [Act.put, List.setIfInBounds_toArray, List.set_cons_zero, List.set_cons_succ]
            refine wpAnyT_stay 14 (v := ?_) rfl (by kernel_rfl) (fun _ _ _ h => h) (Or.inl ⟨by rfl, ?_⟩) ⟨hH.1, fun _ => hH.2⟩ ?_
            rotate_left
            · (intro wx hx; obtain ⟨_, _⟩ := hx; go_simp <;> with_reducible rfl)
            try simp only [Act.put, List.setIfInBounds_toArray, List.set_cons_zero, List.set_cons_succ]
            refine wpAnyT_take 15 (v := ?_) rfl (by kernel_rfl) (fun _ _ _ h => h) (Or.inl ⟨by rfl, ?_⟩) hH ?_
            rotate_left
            · (intro wx hx; obtain ⟨_, _, _, _⟩ := hx; go_simp <;> with_reducible rfl)
            try simp only [Act.put, List.setIfInBounds_toArray, List.set_cons_zero, List.set_cons_succ]
            refine wpAnyT_stay 16 (v := ?_) rfl (by kernel_rfl) (fun _ _ _ h => h) (Or.inl ⟨by rfl, ?_⟩) ⟨hH.1, fun _ => hH.2⟩ ?_
            rotate_left
            · (intro wx hx; obtain ⟨_, _⟩ := hx; go_simp <;> with_reducible rfl)
            try simp only [Act.put, List.setIfInBounds_toArray, List.set_cons_zero, List.set_cons_succ]
            refine wpAnyT_last 17 rfl (by kernel_rfl) (by decide) (fun K hK => ?_)
            go_simp
            refine hK.out _ _ ?_ (fun hH17 => ?_)
            · exact ⟨a0, a1⟩
            clear hK K
            try simp only [Act.put, List.setIfInBounds_toArray, List.set_cons_zero, List.set_cons_succ]
            refine wpAnyT_stay 18 (v := ?_) rfl (by kernel_rfl) (fun _ _ _ h => h) (Or.inl ⟨by rfl, ?_⟩) ⟨hH17, fun h => absurd h (by decide)⟩ ?_
            rotate_left
            · (intro wx hx; obtain ⟨_, _⟩ := hx; go_simp <;> with_reducible rfl)
            try simp only [Act.put, List.setIfInBounds_toArray, List.set_cons_zero, List.set_cons_succ]
            refine wpAnyT_last 19 rfl (by kernel_rfl) (by decide) (fun K hK => ?_)
            go_simp
            refine hK.out _ _ ?_ (fun hH19 => ?_)
            · exact ⟨b0, b1⟩
            clear hK K
            try simp only [Act.put, List.setIfInBounds_toArray, List.set_cons_zero, List.set_cons_succ]
            refine wpAnyT_done (by kernel_rfl) ?_ _
            clear hTd HI HD hT1 hH hH17 hH19 a0 a1 b0 b1 c1 f1 c2 f2
            obtain ⟨wq, hwq⟩ : ∃ wq, (wd.setCell ⟨g, i, none⟩ (.slice Dd n dd)).setCell ⟨g, s.d, none⟩ (.slice Di n di) = wq := ⟨_, rfl⟩
            rw [hwq] at hT2 hBr ⊢
            clear hwq
            have hTM := Lib.hid hT2.out
            clear hT2
            go_wp2
            have y0 := hBr.out.cell 0
            have y1 := hBr.out.cell 1
            obtain ⟨Di, di, u1, -⟩ := hTM.out.ro.cell hir
            obtain ⟨Dd, dd, v1, -⟩ := hTM.out.ro.cell hdr
            refine wp_region_late (S0 := fun w' => w'.cell? ⟨bx, 0, none⟩ = some (.slice (some ⟨g, 0, none⟩) r c) ∧ w'.cell? ⟨bx, 1, none⟩ = some (.slice (some ⟨g', 0, none⟩) r c')) (S := fun w' => w'.cell? ⟨bx, 0, none⟩ = some (.slice (some ⟨g, 0, none⟩) r c) ∧ w'.cell? ⟨bx, 1, none⟩ = some (.slice (some ⟨g', 0, none⟩) r c') ∧ w'.cell? ⟨g', i, none⟩ = some (.slice Di n' di) ∧ w'.cell? ⟨g', s.d, none⟩ = some (.slice Dd n' dd)) 17 20 (by kernel_rfl) rfl ⟨⟨y0, y1⟩, y0, y1, u1, v1⟩ (fun wd hwd hH => ?_)
            have hTd := Lib.hid (show Two w0 w2 g c g' c' r n n' (piv1 i s.d s.L) s.R wd from by rw [hwd]; exact hTM.out.later ((Below.refl _ _).drew))
            clear hwd hTM y0 y1 u1 v1 hBr
            have HI := Lib.hid (row_own hTd.out.ro hir hH.2.2.2.1)
            have HD := Lib.hid (row_own hTd.out.ro hdr hH.2.2.2.2)
            have hT1 := Lib.hid (hTd.out.putR hir (f := s.R s.d) (K := (fun q => if q = i then s.R s.d else s.R q)) HD.out (fun q => rfl))
            have hT2 := Lib.hid (hT1.out.putR hdr (f := s.R i) (K := piv1 i s.d s.R) (own_far (p := ⟨g', i, none⟩) HI.out (row_far hTd.out.ro HI.out) _) (fun q => piv1_row i s.d s.R q))
            have hB1 := hT1.out.oth _ _ _ (by decide) hB2.out
            have hB3 := hT2.out.oth _ _ _ (by decide) hB2.out
            have a0 := hB1.cell 0
            have a1 := hB1.cell 1
            have b0 := hB3.cell 0
            have b1 := hB3.cell 1
            obtain ⟨_, _, c1, f1, -⟩ := hTd.out.ro.cell hir
            obtain ⟨_, _, c2, f2, -⟩ := hT1.out.ro.cell hdr
            have hBr := Lib.hid hB3
            clear hB1 hB3
            refine wpAnyT_stay 0 (v := ?_) rfl (by kernel_rfl) (fun _ _ _ h => h) (Or.inl ⟨by rfl, ?_⟩) ⟨hH.1, fun _ => hH.2⟩ ?_
            rotate_left
            · (intro wx hx; obtain ⟨_, _⟩ := hx; go_simp <;> with_reducible rfl)
            try simp only [Act.put, List.setIfInBounds_toArray, List.set_cons_zero, List.set_cons_succ]
            refine wpAnyT_stay 1 (v := ?_) rfl (by kernel_rfl) (fun _ _ _ h => h) (Or.inl ⟨by rfl, ?_⟩) ⟨hH.1, fun _ => hH.2⟩ ?_
            rotate_left
            · (intro wx hx; obtain ⟨_, _⟩ := hx; go_simp <;> with_reducible rfl)
            try simp only [Act.put, List.setIfInBounds_toArray, List.set_cons_zero, List.set_cons_succ]
            refine wpAnyT_stay 2 (v := ?_) rfl (by kernel_rfl) (fun _ _ _ h => h) (Or.inl ⟨by rfl, ?_⟩) ⟨hH.1, fun _ => hH.2⟩ ?_
            rotate_left
            · (intro wx hx; obtain ⟨_, _⟩ := hx; go_simp <;> with_reducible rfl)
            try simp only [Act.put, List.setIfInBounds_toArray, List.set_cons_zero, List.set_cons_succ]
            refine wpAnyT_stay 3 (v := ?_) rfl (by kernel_rfl) (fun _ _ _ h => h) (Or.inl ⟨by rfl, ?_⟩) ⟨hH.1, fun _ => hH.2⟩ ?_
            rotate_left
            · (intro wx hx; obtain ⟨_, _⟩ := hx; go_simp <;> with_reducible rfl)
            try simp only [Act.put, List.setIfInBounds_toArray, List.set_cons_zero, List.set_cons_succ]
            refine wpAnyT_stay 4 (v := ?_) rfl (by kernel_rfl) (fun _ _ _ h => h) (Or.inl ⟨by rfl, ?_⟩) ⟨hH.1, fun _ => hH.2⟩ ?_
            rotate_left
            · (intro wx hx; obtain ⟨_, _⟩ := hx; go_simp <;> with_reducible rfl)
            try simp only [Act.put, List.setIfInBounds_toArray, List.set_cons_zero, List.set_cons_succ]
            refine wpAnyT_stay 5 (v := ?_) rfl (by kernel_rfl) (fun _ _ _ h => h) (Or.inl ⟨by rfl, ?_⟩) ⟨hH.1, fun _ => hH.2⟩ ?_
            rotate_left
            · (intro wx hx; obtain ⟨_, _⟩ := hx; go_simp <;> with_reducible rfl)
            try simp only [Act.put, List.setIfInBounds_toArray, List.set_cons_zero, List.set_cons_succ]
            refine wpAnyT_stay 6 (v := ?_) rfl (by kernel_rfl) (fun _ _ _ h => h) (Or.inl ⟨by rfl, ?_⟩) ⟨hH.1, fun _ => hH.2⟩ ?_
            rotate_left
            · (intro wx hx; obtain ⟨_, _⟩ := hx; go_simp <;> with_reducible rfl)
            try simp only [Act.put, List.setIfInBounds_toArray, List.set_cons_zero, List.set_cons_succ]
            refine wpAnyT_stay 7 (v := ?_) rfl (by kernel_rfl) (fun _ _ _ h => h) (Or.inl ⟨by rfl, ?_⟩) ⟨hH.1, fun _ => hH.2⟩ ?_
            rotate_left
            · (intro wx hx; obtain ⟨_, _⟩ := hx; go_simp <;> with_reducible rfl)
            try simp only [Act.put, List.setIfInBounds_toArray, List.set_cons_zero, List.set_cons_succ]
            refine wpAnyT_stay 8 (v := ?_) rfl (by kernel_rfl) (fun _ _ _ h => h) (Or.inl ⟨by rfl, ?_⟩) ⟨hH.1, fun _ => hH.2⟩ ?_
            rotate_left
            · (intro wx hx; obtain ⟨_, _⟩ := hx; go_simp <;> with_reducible rfl)
            try simp only [Act.put, List.setIfInBounds_toArray, List.set_cons_zero, List.set_cons_succ]
            refine wpAnyT_stay 9 (v := ?_) rfl (by kernel_rfl) (fun _ _ _ h => h) (Or.inl ⟨by rfl, ?_⟩) ⟨hH.1, fun _ => hH.2⟩ ?_
            rotate_left
            · (intro wx hx; obtain ⟨_, _⟩ := hx; go_simp <;> with_reducible rfl)
            try simp only [Act.put, List.setIfInBounds_toArray, List.set_cons_zero, List.set_cons_succ]
            refine wpAnyT_take 10 (v := ?_) rfl (by kernel_rfl) (fun _ _ _ h => h) (Or.inl ⟨by rfl, ?_⟩) hH ?_
            rotate_left
            · (intro wx hx; obtain ⟨_, _, _, _⟩ := hx; go_simp <;> with_reducible rfl)
            try simp only [Act.put, List.setIfInBounds_toArray, List.set_cons_zero, List.set_cons_succ]
            refine wpAnyT_stay 11 (v := ?_) rfl (by kernel_rfl) (fun _ _ _ h => h) (Or.inl ⟨by rfl, ?_⟩) ⟨hH.1, fun _ => hH.2⟩ ?_
            rotate_left
            · (intro wx hx; obtain ⟨_, _⟩ := hx; go_simp <;> with_reducible rfl)
            try simp only [Act.put, List.setIfInBounds_toArray, List.set_cons_zero, List.set_cons_succ]
            refine wpAnyT_stay 12 (v := ?_) rfl (by kernel_rfl) (fun _ _ _ h => h) (Or.inl ⟨by rfl, ?_⟩) ⟨hH.1, fun _ => hH.2⟩ ?_
            rotate_left
            · (intro wx hx; obtain ⟨_, _⟩ := hx; go_simp <;> with_reducible rfl)
            try simp only [Act.put, List.setIfInBounds_toArray, List.set_cons_zero, List.set_cons_succ]
            refine wpAnyT_stay 13 (v := ?_) rfl (by kernel_rfl) (fun _ _ _ h => h) (Or.inl ⟨by rfl, ?_⟩) ⟨hH.1, fun _ => hH.2⟩ ?_
            rotate_left
            · (intro wx hx; obtain ⟨_, _⟩ := hx; go_simp <;> with_reducible rfl)
            try simp only [Act.put, List.setIfInBounds_toArray, List.set_cons_zero, List.set_cons_succ]
            refine wpAnyT_stay 14 (v := ?_) rfl (by kernel_rfl) (fun _ _ _ h => h) (Or.inl ⟨by rfl, ?_⟩) ⟨hH.1, fun _ => hH.2⟩ ?_
            rotate_left
            · (intro wx hx; obtain ⟨_, _⟩ := hx; go_simp <;> with_reducible rfl)
            try simp only [Act.put, List.setIfInBounds_toArray, List.set_cons_zero, List.set_cons_succ]
            refine wpAnyT_take 15 (v := ?_) rfl (by kernel_rfl) (fun _ _ _ h => h) (Or.inl ⟨by rfl, ?_⟩) hH ?_
            rotate_left
            · (intro wx hx; obtain ⟨_, _, _, _⟩ := hx; go_simp <;> with_reducible rfl)
            try simp only [Act.put, List.setIfInBounds_toArray, List.set_cons_zero, List.set_cons_succ]
            refine wpAnyT_stay 16 (v := ?_) rfl (by kernel_rfl) (fun _ _ _ h => h) (Or.inl ⟨by rfl, ?_⟩) ⟨hH.1, fun _ => hH.2⟩ ?_
            rotate_left
            · (intro wx hx; obtain ⟨_, _⟩ := hx; go_simp <;> with_reducible rfl)
            try simp only [Act.put, List.setIfInBounds_toArray, List.set_cons_zero, List.set_cons_succ]
            refine wpAnyT_last 17 rfl (by kernel_rfl) (by decide) (fun K hK => ?_)
            go_simp
            refine hK.out _ _ ?_ (fun hH17 => ?_)
            · exact ⟨a0, a1⟩
            clear hK K
            try simp only [Act.put, List.setIfInBounds_toArray, List.set_cons_zero, List.set_cons_succ]
            refine wpAnyT_stay 18 (v := ?_) rfl (by kernel_rfl) (fun _ _ _ h => h) (Or.inl ⟨by rfl, ?_⟩) ⟨hH17, fun h => absurd h (by decide)⟩ ?_
            rotate_left
            · (intro wx hx; obtain ⟨_, _⟩ := hx; go_simp <;> with_reducible rfl)
            try simp only [Act.put, List.setIfInBounds_toArray, List.set_cons_zero, List.set_cons_succ]
            refine wpAnyT_last 19 rfl (by kernel_rfl) (by decide) (fun K hK => ?_)
            go_simp
            refine hK.out _ _ ?_ (fun hH19 => ?_)
            · exact ⟨b0, b1⟩
            clear hK K
            try simp only [Act.put, List.setIfInBounds_toArray, List.set_cons_zero, List.set_cons_succ]
            refine wpAnyT_done (by kernel_rfl) ?_ _
            clear hTd HI HD hT1 hH hH17 hH19 a0 a1 b0 b1 c1 f1 c2 f2
            obtain ⟨wq, hwq⟩ : ∃ wq, (wd.setCell ⟨g', i, none⟩ (.slice Dd n' dd)).setCell ⟨g', s.d, none⟩ (.slice Di n' di) = wq := ⟨_, rfl⟩
            rw [hwq] at hT2 hBr ⊢
            clear hwq
            have hTR := Lib.hid hT2.out
            clear hT2
            have z0 := hBr.out.cell 0
            have z1 := hBr.out.cell 1
            have hTc := Lib.hid hTR.out.since
            go_wp2_with (go_at_call 43; refine (clear_any w0 wq g c g' c' r n n' s.d k _ _ hTc hdr hkn HPV.out r1 n1 n1' hc hc' hMC.out hMC'.out).mono ?_; rintro e w9 ⟨rfl, hh⟩; have HH := Lib.hid hh; clear hh)
            have hFin : Hid (Two w0 w2 g c g' c' r n n' (red r ⟨0, L, R⟩ (k + 1)).L (red r ⟨0, L, R⟩ (k + 1)).R w9) := Lib.hid (by
              rw [hsucc.out, hstp.out]
              exact ⟨HH.out.lo, HH.out.ro, HH.out.ne, HH.out.bel, hTR.out.oth.trans HH.out.oth⟩)
            exact ⟨⟨k + 1, by omega, by go_num, by rw [hsucc.out, hstp.out]; rfl, hFin⟩, by simp [intOf]; omega⟩
        · obtain rfl : i = r := by omega
          have hstp : Hid (stp i k s = s) := Lib.hid (stp_none (fnz_not (fun q h1 h2 => hzz.out q h1 (by omega))))
          clear hzz
          go_wp2
          exact ⟨⟨k + 1, by omega, by go_num, by rw [hsucc.out, hstp.out], by rw [hsucc.out, hstp.out]; exact hTk⟩, by simp [intOf]; omega⟩
    · obtain rfl : k = cols := by omega
      have hEnd : Hid (Two w0 w g c g' c' r n n' (red r ⟨0, L, R⟩ k).L (red r ⟨0, L, R⟩ k).R wr) := Lib.hid (let h := hTk.out; ⟨h.lo, h.ro, h.ne, h.bel, hOth.out.trans h.oth⟩)
      clear hTk
      go_wp2
      go_ret
      exact ⟨rfl, hEnd.out⟩
end Go.Proofs.Ytebpaafofombaaa
