/-
  THE REFERENCE's reduce.
-/
import Derived.Test.YtebpaafofombaaaMxT2
namespace Go.Proofs.Ytebpaafofombaaa
open Go.RowKit GfMath MxMath
set_option linter.unusedVariables false
theorem piv3_at (d : Nat) (c : Nat → El) (N : Mat) : piv3 d c N d = N d := by funext j; unfold piv3; rw [clr_act, if_pos rfl]
set_option maxRecDepth 100000 in
set_option maxHeartbeats 40000000 in
theorem rreduce (w w1 : World) (go ca go' ca' r n n' : Nat) (g c g' c' : Nat → Nat) (L R : Mat) (hT : Hid (Z2 w go ca go' ca' r n n' g c g' c' L R w1)) (r0 : 0 < r) (r1 : r ≤ 255) (n0 : 0 < n) (n1 : n ≤ 255) (n1' : n' ≤ 255) :
    Calls Try.prog 42 #[.slice (some ⟨go, 0, none⟩) r ca, .slice (some ⟨go', 0, none⟩) r ca'] w1 fun e w' => e = .returned (.int .i64 (red r ⟨0, L, R⟩ n).d) ∧ ∃ g c g' c', Z2 w go ca go' ca' r n n' g c g' c' (red r ⟨0, L, R⟩ n).L (red r ⟨0, L, R⟩ n).R w' := by
  go_enter Try.func42, Try.ntmps42
  go_wp2
  go_loopw [5, 6, 7, 8, 9, 10] (fun vd vc _ _ _ _ wr => ∃ k : Nat, ∃ gk ck gk' ck' : Nat → Nat, k ≤ n ∧ vc = .int .i64 k ∧ vd = .int .i64 (red r ⟨0, L, R⟩ k).d ∧ Hid (Z2 w go ca go' ca' r n n' gk ck gk' ck' (red r ⟨0, L, R⟩ k).L (red r ⟨0, L, R⟩ k).R wr)) (fun _ vc _ _ _ _ _ => n - (intOf vc).toNat)
  case atStart => exact ⟨0, _, _, _, _, by omega, rfl, rfl, hT⟩
  case round =>
    obtain ⟨k, gk, ck, gk', ck', hk, rfl, rfl, hTk⟩ := hrel
    have hdle := red_le r L R k
    have HRF := Lib.hid (red_full (r := r) (s0 := ⟨0, L, R⟩) (k := k))
    obtain ⟨s, hs⟩ : ∃ s, red r ⟨0, L, R⟩ k = s := ⟨_, rfl⟩
    have hsucc : Hid (red r ⟨0, L, R⟩ (k + 1) = stp r k s) := Lib.hid (by rw [← hs]; rfl)
    have HKN : Hid (k = n → red r ⟨0, L, R⟩ n = s) := Lib.hid (fun e => by rw [← e]; exact hs)
    rw [hs] at hTk hdle HRF ⊢
    clear hs
    have zc0 := (hTk.out.lo.cell r0).1
    by_cases hlt : k < n
    · by_cases hdr : s.d < r
      · have wo_ := wr
        go_wp2
        clear zc0
        obtain ⟨wo, hwo⟩ : ∃ wo : World, wo = wr := ⟨_, rfl⟩
        rw [← hwo] at hTk ⊢
        clear hwo
        go_loopw [7] (fun vp w' => ∃ i : Nat, s.d ≤ i ∧ i ≤ r ∧ vp = .int .i64 i ∧ w' = wo ∧ Hid (∀ q, s.d ≤ q → q < i → s.L q k = 0)) (fun vp _ => r - (intOf vp).toNat)
        case atStart => exact ⟨s.d, Nat.le_refl _, hdle, rfl, rfl, Lib.hid (fun q h1 h2 => by omega)⟩
        case round =>
          obtain ⟨i, hdi, hir', rfl, rfl, hzz⟩ := hrel
          by_cases hir : i < r
          · have u1 := (hTk.out.lo.cell hir).1
            have u2 := ((hTk.out.lo.rows i hir).cell hlt).1
            by_cases hz : (s.L i k).v = 0
            · have H2 := Lib.hid (show ∀ q, s.d ≤ q → q < i + 1 → s.L q k = 0 from fun q h1 h2 => by
                by_cases e : q = i
                · subst e; exact El.ext' hz
                · exact hzz.out q h1 (by omega))
              rw [hz] at u2
              clear hz hzz
              go_wp2
              exact ⟨⟨i + 1, by omega, by omega, by go_num, (by first | rfl | trivial), H2⟩, by simp [intOf]; omega⟩
            · have hne : Hid (s.L i k ≠ 0) := Lib.hid (fun e => hz (congrArg El.v e))
              have hstp : Hid (stp r k s = ⟨s.d + 1, piv3 s.d (fun q => piv2 s.d (piv1 i s.d s.L s.d k) (piv1 i s.d s.L) q k) (piv2 s.d (piv1 i s.d s.L s.d k) (piv1 i s.d s.L)),
                  piv3 s.d (fun q => piv2 s.d (piv1 i s.d s.L s.d k) (piv1 i s.d s.L) q k) (piv2 s.d (piv1 i s.d s.L s.d k) (piv1 i s.d s.R))⟩) := Lib.hid (stp_some (fnz_is hzz.out hne.out hdi (by omega)))
              have hpv : piv1 i s.d s.L s.d k ≠ 0 := by rw [piv1_row, if_pos rfl]; exact hne.out
              have HPV := Lib.hid hpv
              have e6 : (((s.L i k).v : Int) == 0) = false := by simp; omega
              have e7 : ((i : Int) == (r : Int)) = false := by simp; omega
              clear hz hpv hzz
              go_wp2
              clear u1 u2 e6 e7
              have ui := hTk.out.lo.cell hir
              have ud := hTk.out.lo.cell hdr
              refine wp_region_late (S0 := fun _ => True) (S := fun w' => w'.cell? ⟨go, i, none⟩ = some (.slice (some ⟨gk i, 0, none⟩) n (ck i)) ∧ w'.cell? ⟨go, s.d, none⟩ = some (.slice (some ⟨gk s.d, 0, none⟩) n (ck s.d))) 13 16 (by kernel_rfl) rfl ⟨trivial, ui.1, ud.1⟩ (fun wd hwd hH => ?_)
              have hTd := Lib.hid (hTk.out.later (w' := wd) (by rw [hwd]; exact (Below.refl _ _).drew))
              clear hwd ui ud
              have f1 := (hTd.out.lo.cell hir).2
              have hs1 := (hTd.out.lo.own.stored i (.slice (some ⟨gk s.d, 0, none⟩) n (ck s.d))).1
              have c2 := hs1.cellAt s.d (by omega)
              have f2 := hs1.frozenAt s.d
              obtain ⟨y, hy⟩ : ∃ y, (((List.range r).map fun q => Value.slice (some ⟨gk q, 0, none⟩) n (ck q)).set i (.slice (some ⟨gk s.d, 0, none⟩) n (ck s.d)))[s.d]? = some y := ⟨_, List.getElem?_eq_getElem (by simp; omega)⟩
              rw [hy] at c2
              have hT1 := Lib.hid (hTd.out.swap hir hdr)
              clear hs1 hy
              refine wpAnyT_stay 0 (v := ?_) rfl (by kernel_rfl) (fun _ _ _ h => h) (Or.inl ⟨by rfl, ?_⟩) ⟨hH.1, fun _ => hH.2⟩ ?_
              rotate_left
              · (intro wx hx; go_simp <;> with_reducible rfl)
              try simp only [Act.put, List.setIfInBounds_toArray, List.set_cons_zero, List.set_cons_succ]
              refine wpAnyT_stay 1 (v := ?_) rfl (by kernel_rfl) (fun _ _ _ h => h) (Or.inl ⟨by rfl, ?_⟩) ⟨hH.1, fun _ => hH.2⟩ ?_
              rotate_left
              · (intro wx hx; go_simp <;> with_reducible rfl)
              try simp only [Act.put, List.setIfInBounds_toArray, List.set_cons_zero, List.set_cons_succ]
              refine wpAnyT_stay 2 (v := ?_) rfl (by kernel_rfl) (fun _ _ _ h => h) (Or.inl ⟨by rfl, ?_⟩) ⟨hH.1, fun _ => hH.2⟩ ?_
              rotate_left
              · (intro wx hx; go_simp <;> with_reducible rfl)
              try simp only [Act.put, List.setIfInBounds_toArray, List.set_cons_zero, List.set_cons_succ]
              refine wpAnyT_stay 3 (v := ?_) rfl (by kernel_rfl) (fun _ _ _ h => h) (Or.inl ⟨by rfl, ?_⟩) ⟨hH.1, fun _ => hH.2⟩ ?_
              rotate_left
              · (intro wx hx; go_simp <;> with_reducible rfl)
              try simp only [Act.put, List.setIfInBounds_toArray, List.set_cons_zero, List.set_cons_succ]
              refine wpAnyT_stay 4 (v := ?_) rfl (by kernel_rfl) (fun _ _ _ h => h) (Or.inl ⟨by rfl, ?_⟩) ⟨hH.1, fun _ => hH.2⟩ ?_
              rotate_left
              · (intro wx hx; go_simp <;> with_reducible rfl)
              try simp only [Act.put, List.setIfInBounds_toArray, List.set_cons_zero, List.set_cons_succ]
              refine wpAnyT_stay 5 (v := ?_) rfl (by kernel_rfl) (fun _ _ _ h => h) (Or.inl ⟨by rfl, ?_⟩) ⟨hH.1, fun _ => hH.2⟩ ?_
              rotate_left
              · (intro wx hx; go_simp <;> with_reducible rfl)
              try simp only [Act.put, List.setIfInBounds_toArray, List.set_cons_zero, List.set_cons_succ]
              refine wpAnyT_stay 6 (v := ?_) rfl (by kernel_rfl) (fun _ _ _ h => h) (Or.inl ⟨by rfl, ?_⟩) ⟨hH.1, fun _ => hH.2⟩ ?_
              rotate_left
              · (intro wx hx; go_simp <;> with_reducible rfl)
              try simp only [Act.put, List.setIfInBounds_toArray, List.set_cons_zero, List.set_cons_succ]
              refine wpAnyT_take 7 (v := ?_) rfl (by kernel_rfl) (fun _ _ _ h => h) (Or.inl ⟨by rfl, ?_⟩) hH ?_
              rotate_left
              · (intro wx hx; obtain ⟨_, _⟩ := hx; go_simp <;> with_reducible rfl)
              try simp only [Act.put, List.setIfInBounds_toArray, List.set_cons_zero, List.set_cons_succ]
              refine wpAnyT_stay 8 (v := ?_) rfl (by kernel_rfl) (fun _ _ _ h => h) (Or.inl ⟨by rfl, ?_⟩) ⟨hH.1, fun _ => hH.2⟩ ?_
              rotate_left
              · (intro wx hx; go_simp <;> with_reducible rfl)
              try simp only [Act.put, List.setIfInBounds_toArray, List.set_cons_zero, List.set_cons_succ]
              refine wpAnyT_stay 9 (v := ?_) rfl (by kernel_rfl) (fun _ _ _ h => h) (Or.inl ⟨by rfl, ?_⟩) ⟨hH.1, fun _ => hH.2⟩ ?_
              rotate_left
              · (intro wx hx; go_simp <;> with_reducible rfl)
              try simp only [Act.put, List.setIfInBounds_toArray, List.set_cons_zero, List.set_cons_succ]
              refine wpAnyT_stay 10 (v := ?_) rfl (by kernel_rfl) (fun _ _ _ h => h) (Or.inl ⟨by rfl, ?_⟩) ⟨hH.1, fun _ => hH.2⟩ ?_
              rotate_left
              · (intro wx hx; go_simp <;> with_reducible rfl)
              try simp only [Act.put, List.setIfInBounds_toArray, List.set_cons_zero, List.set_cons_succ]
              refine wpAnyT_take 11 (v := ?_) rfl (by kernel_rfl) (fun _ _ _ h => h) (Or.inl ⟨by rfl, ?_⟩) hH ?_
              rotate_left
              · (intro wx hx; obtain ⟨_, _⟩ := hx; go_simp <;> with_reducible rfl)
              try simp only [Act.put, List.setIfInBounds_toArray, List.set_cons_zero, List.set_cons_succ]
              refine wpAnyT_stay 12 (v := ?_) rfl (by kernel_rfl) (fun _ _ _ h => h) (Or.inl ⟨by rfl, ?_⟩) ⟨hH.1, fun _ => hH.2⟩ ?_
              rotate_left
              · (intro wx hx; go_simp <;> with_reducible rfl)
              try simp only [Act.put, List.setIfInBounds_toArray, List.set_cons_zero, List.set_cons_succ]
              refine wpAnyT_last 13 rfl (by kernel_rfl) (by decide) (fun K hK => ?_)
              have c1 := hH.2.1
              go_simp
              refine hK.out _ _ trivial (fun hH13 => ?_)
              clear hK K c1
              try simp only [Act.put, List.setIfInBounds_toArray, List.set_cons_zero, List.set_cons_succ]
              refine wpAnyT_stay 14 (v := ?_) rfl (by kernel_rfl) (fun _ _ _ h => h) (Or.inl ⟨by rfl, ?_⟩) ⟨trivial, fun h => absurd h (by decide)⟩ ?_
              rotate_left
              · (intro wx hx; go_simp <;> with_reducible rfl)
              try simp only [Act.put, List.setIfInBounds_toArray, List.set_cons_zero, List.set_cons_succ]
              refine wpAnyT_last 15 rfl (by kernel_rfl) (by decide) (fun K hK => ?_)
              go_simp
              refine hK.out _ _ trivial (fun hH15 => ?_)
              clear hK K
              try simp only [Act.put, List.setIfInBounds_toArray, List.set_cons_zero, List.set_cons_succ]
              refine wpAnyT_done (by kernel_rfl) ?_ _
              clear hTd hH hH13 hH15 f1 c2 f2
              obtain ⟨wq, hwq⟩ : ∃ wq, (wd.setCell ⟨go, i, none⟩ (.slice (some ⟨gk s.d, 0, none⟩) n (ck s.d))).setCell ⟨go, s.d, none⟩ (.slice (some ⟨gk i, 0, none⟩) n (ck i)) = wq := ⟨_, rfl⟩
              rw [hwq] at hT1 ⊢
              clear hwq
              have hTa := hT1
              clear hT1
              clear hTk
              go_wp2
              have ui := hTa.out.ro.cell hir
              have ud := hTa.out.ro.cell hdr
              refine wp_region_late (S0 := fun _ => True) (S := fun w' => w'.cell? ⟨go', i, none⟩ = some (.slice (some ⟨gk' i, 0, none⟩) n' (ck' i)) ∧ w'.cell? ⟨go', s.d, none⟩ = some (.slice (some ⟨gk' s.d, 0, none⟩) n' (ck' s.d))) 13 16 (by kernel_rfl) rfl ⟨trivial, ui.1, ud.1⟩ (fun wd hwd hH => ?_)
              have hTd := Lib.hid (hTa.out.later (w' := wd) (by rw [hwd]; exact (Below.refl _ _).drew))
              clear hwd ui ud
              have f1 := (hTd.out.ro.cell hir).2
              have hs1 := (hTd.out.ro.own.stored i (.slice (some ⟨gk' s.d, 0, none⟩) n' (ck' s.d))).1
              have c2 := hs1.cellAt s.d (by omega)
              have f2 := hs1.frozenAt s.d
              obtain ⟨y, hy⟩ : ∃ y, (((List.range r).map fun q => Value.slice (some ⟨gk' q, 0, none⟩) n' (ck' q)).set i (.slice (some ⟨gk' s.d, 0, none⟩) n' (ck' s.d)))[s.d]? = some y := ⟨_, List.getElem?_eq_getElem (by simp; omega)⟩
              rw [hy] at c2
              have hT1 := Lib.hid (hTd.out.swap' hir hdr)
              clear hs1 hy
              refine wpAnyT_stay 0 (v := ?_) rfl (by kernel_rfl) (fun _ _ _ h => h) (Or.inl ⟨by rfl, ?_⟩) ⟨hH.1, fun _ => hH.2⟩ ?_
              rotate_left
              · (intro wx hx; go_simp <;> with_reducible rfl)
              try simp only [Act.put, List.setIfInBounds_toArray, List.set_cons_zero, List.set_cons_succ]
              refine wpAnyT_stay 1 (v := ?_) rfl (by kernel_rfl) (fun _ _ _ h => h) (Or.inl ⟨by rfl, ?_⟩) ⟨hH.1, fun _ => hH.2⟩ ?_
              rotate_left
              · (intro wx hx; go_simp <;> with_reducible rfl)
              try simp only [Act.put, List.setIfInBounds_toArray, List.set_cons_zero, List.set_cons_succ]
              refine wpAnyT_stay 2 (v := ?_) rfl (by kernel_rfl) (fun _ _ _ h => h) (Or.inl ⟨by rfl, ?_⟩) ⟨hH.1, fun _ => hH.2⟩ ?_
              rotate_left
              · (intro wx hx; go_simp <;> with_reducible rfl)
              try simp only [Act.put, List.setIfInBounds_toArray, List.set_cons_zero, List.set_cons_succ]
              refine wpAnyT_stay 3 (v := ?_) rfl (by kernel_rfl) (fun _ _ _ h => h) (Or.inl ⟨by rfl, ?_⟩) ⟨hH.1, fun _ => hH.2⟩ ?_
              rotate_left
              · (intro wx hx; go_simp <;> with_reducible rfl)
              try simp only [Act.put, List.setIfInBounds_toArray, List.set_cons_zero, List.set_cons_succ]
              refine wpAnyT_stay 4 (v := ?_) rfl (by kernel_rfl) (fun _ _ _ h => h) (Or.inl ⟨by rfl, ?_⟩) ⟨hH.1, fun _ => hH.2⟩ ?_
              rotate_left
              · (intro wx hx; go_simp <;> with_reducible rfl)
              try simp only [Act.put, List.setIfInBounds_toArray, List.set_cons_zero, List.set_cons_succ]
              refine wpAnyT_stay 5 (v := ?_) rfl (by kernel_rfl) (fun _ _ _ h => h) (Or.inl ⟨by rfl, ?_⟩) ⟨hH.1, fun _ => hH.2⟩ ?_
              rotate_left
              · (intro wx hx; go_simp <;> with_reducible rfl)
              try simp only [Act.put, List.setIfInBounds_toArray, List.set_cons_zero, List.set_cons_succ]
              refine wpAnyT_stay 6 (v := ?_) rfl (by kernel_rfl) (fun _ _ _ h => h) (Or.inl ⟨by rfl, ?_⟩) ⟨hH.1, fun _ => hH.2⟩ ?_
              rotate_left
              · (intro wx hx; go_simp <;> with_reducible rfl)
              try simp only [Act.put, List.setIfInBounds_toArray, List.set_cons_zero, List.set_cons_succ]
              refine wpAnyT_take 7 (v := ?_) rfl (by kernel_rfl) (fun _ _ _ h => h) (Or.inl ⟨by rfl, ?_⟩) hH ?_
              rotate_left
              · (intro wx hx; obtain ⟨_, _⟩ := hx; go_simp <;> with_reducible rfl)
              try simp only [Act.put, List.setIfInBounds_toArray, List.set_cons_zero, List.set_cons_succ]
              refine wpAnyT_stay 8 (v := ?_) rfl (by kernel_rfl) (fun _ _ _ h => h) (Or.inl ⟨by rfl, ?_⟩) ⟨hH.1, fun _ => hH.2⟩ ?_
              rotate_left
              · (intro wx hx; go_simp <;> with_reducible rfl)
              try simp only [Act.put, List.setIfInBounds_toArray, List.set_cons_zero, List.set_cons_succ]
              refine wpAnyT_stay 9 (v := ?_) rfl (by kernel_rfl) (fun _ _ _ h => h) (Or.inl ⟨by rfl, ?_⟩) ⟨hH.1, fun _ => hH.2⟩ ?_
              rotate_left
              · (intro wx hx; go_simp <;> with_reducible rfl)
              try simp only [Act.put, List.setIfInBounds_toArray, List.set_cons_zero, List.set_cons_succ]
              refine wpAnyT_stay 10 (v := ?_) rfl (by kernel_rfl) (fun _ _ _ h => h) (Or.inl ⟨by rfl, ?_⟩) ⟨hH.1, fun _ => hH.2⟩ ?_
              rotate_left
              · (intro wx hx; go_simp <;> with_reducible rfl)
              try simp only [Act.put, List.setIfInBounds_toArray, List.set_cons_zero, List.set_cons_succ]
              refine wpAnyT_take 11 (v := ?_) rfl (by kernel_rfl) (fun _ _ _ h => h) (Or.inl ⟨by rfl, ?_⟩) hH ?_
              rotate_left
              · (intro wx hx; obtain ⟨_, _⟩ := hx; go_simp <;> with_reducible rfl)
              try simp only [Act.put, List.setIfInBounds_toArray, List.set_cons_zero, List.set_cons_succ]
              refine wpAnyT_stay 12 (v := ?_) rfl (by kernel_rfl) (fun _ _ _ h => h) (Or.inl ⟨by rfl, ?_⟩) ⟨hH.1, fun _ => hH.2⟩ ?_
              rotate_left
              · (intro wx hx; go_simp <;> with_reducible rfl)
              try simp only [Act.put, List.setIfInBounds_toArray, List.set_cons_zero, List.set_cons_succ]
              refine wpAnyT_last 13 rfl (by kernel_rfl) (by decide) (fun K hK => ?_)
              have c1 := hH.2.1
              go_simp
              refine hK.out _ _ trivial (fun hH13 => ?_)
              clear hK K c1
              try simp only [Act.put, List.setIfInBounds_toArray, List.set_cons_zero, List.set_cons_succ]
              refine wpAnyT_stay 14 (v := ?_) rfl (by kernel_rfl) (fun _ _ _ h => h) (Or.inl ⟨by rfl, ?_⟩) ⟨trivial, fun h => absurd h (by decide)⟩ ?_
              rotate_left
              · (intro wx hx; go_simp <;> with_reducible rfl)
              try simp only [Act.put, List.setIfInBounds_toArray, List.set_cons_zero, List.set_cons_succ]
              refine wpAnyT_last 15 rfl (by kernel_rfl) (by decide) (fun K hK => ?_)
              go_simp
              refine hK.out _ _ trivial (fun hH15 => ?_)
              clear hK K
              try simp only [Act.put, List.setIfInBounds_toArray, List.set_cons_zero, List.set_cons_succ]
              refine wpAnyT_done (by kernel_rfl) ?_ _
              clear hTd hH hH13 hH15 f1 c2 f2
              obtain ⟨wq, hwq⟩ : ∃ wq, (wd.setCell ⟨go', i, none⟩ (.slice (some ⟨gk' s.d, 0, none⟩) n' (ck' s.d))).setCell ⟨go', s.d, none⟩ (.slice (some ⟨gk' i, 0, none⟩) n' (ck' i)) = wq := ⟨_, rfl⟩
              rw [hwq] at hT1 ⊢
              clear hwq
              have hTb := hT1
              clear hT1
              clear hTa
              obtain ⟨g1, c1, g2, c2, hTc⟩ : ∃ g1 c1 g2 c2, Hid (Z2 w go ca go' ca' r n n' g1 c1 g2 c2 (piv1 i s.d s.L) (piv1 i s.d s.R) wq) := ⟨_, _, _, _, hTb⟩
              clear hTb
              obtain ⟨L1, hL1⟩ : ∃ L1, piv1 i s.d s.L = L1 := ⟨_, rfl⟩
              obtain ⟨R1, hR1⟩ : ∃ R1, piv1 i s.d s.R = R1 := ⟨_, rfl⟩
              rw [hL1] at hTc hstp HPV
              rw [hR1] at hTc hstp
              clear hL1 hR1
              obtain ⟨X, hX⟩ : ∃ X, L1 s.d k = X := ⟨_, rfl⟩
              rw [hX] at hstp HPV
              have y1 := (hTc.out.lo.cell hdr).1
              have y2 := ((hTc.out.lo.rows s.d hdr).cell hlt).1
              rw [hX] at y2
              have HX := Lib.hid hX
              clear hX
              have hIv : gpw X.v 254 = (inv X).v := by rw [← inv_gpw X HPV.out, el_v (gpw_lt X.v 254)]
              have HIV := Lib.hid hIv
              clear hIv
              have hxl := X.lt
              have tk1 : True := trivial
              go_wp2_with (first
                | (go_at_call 39; refine (rinv_any X.v hxl _).mono ?_; rintro e w3 ⟨rfl, rfl⟩; rw [HIV.out])
                | (go_at_call 47; have _t := tk1; refine (rscale w.heap.size (g1 s.d) n (c1 s.d) (L1 s.d) (inv X) _ (Lib.hid (hTc.out.lo.rows s.d hdr)) n1).mono ?_; rintro e w4 ⟨rfl, ho, hr⟩; have hTe := Lib.hid (hTc.out.row hdr ho hr (K := piv2 s.d X L1) (fun q _ => piv2_row s.d X L1 q)); have y3 := (hTe.out.ro.cell hdr).1; clear ho hr y1 y2 tk1 _t)
                | (go_at_call 47; refine (rscale w.heap.size (g2 s.d) n' (c2 s.d) (R1 s.d) (inv X) _ (Lib.hid (hTe.out.ro.rows s.d hdr)) n1').mono ?_; rintro e w5 ⟨rfl, ho, hr⟩; have hTf := Lib.hid (hTe.out.row' hdr ho hr (K := piv2 s.d X R1) (fun q _ => piv2_row s.d X R1 q)); clear ho hr y3))
              clear hTc hTe HX
              obtain ⟨P2, hP2⟩ : ∃ P2, piv2 s.d X L1 = P2 := ⟨_, rfl⟩
              obtain ⟨Q2, hQ2⟩ : ∃ Q2, piv2 s.d X R1 = Q2 := ⟨_, rfl⟩
              rw [hP2] at hTf hstp
              rw [hQ2] at hTf hstp
              clear hP2 hQ2
              obtain ⟨P3, hP3⟩ : ∃ P3, piv3 s.d (fun q => P2 q k) P2 = P3 := ⟨_, rfl⟩
              obtain ⟨Q3, hQ3⟩ : ∃ Q3, piv3 s.d (fun q => P2 q k) Q2 = Q3 := ⟨_, rfl⟩
              rw [hP3, hQ3] at hstp
              have HP3 := Lib.hid hP3
              have HQ3 := Lib.hid hQ3
              clear hP3 hQ3
              have HPd : Hid (P3 s.d = P2 s.d ∧ Q3 s.d = Q2 s.d) := Lib.hid ⟨by rw [← HP3.out, piv3_at], by rw [← HQ3.out, piv3_at]⟩
              go_loopw [9, 10] (fun vi _ wr => ∃ i2 : Nat, i2 ≤ r ∧ vi = .int .i64 i2 ∧ Hid (Z2 w go ca go' ca' r n n' g1 c1 g2 c2 (fun q => if q < i2 then P3 q else P2 q) (fun q => if q < i2 then Q3 q else Q2 q) wr)) (fun vi _ _ => r - (intOf vi).toNat)
              case atStart => exact ⟨0, by omega, rfl, Lib.hid (hTf.out.congr (fun a b _ _ => by simp) (fun a b _ _ => by simp))⟩
              case round =>
                obtain ⟨i2, hi2, rfl, hTg⟩ := hrel
                clear hTf
                by_cases hir2 : i2 < r
                · by_cases q2 : i2 = s.d
                  · have HN := Lib.hid (hTg.out.congr (K := fun q => if q < i2 + 1 then P3 q else P2 q) (K' := fun q => if q < i2 + 1 then Q3 q else Q2 q) (fun a b _ _ => by
                      by_cases e : a = i2
                      · rw [e, if_neg (by omega), if_pos (by omega), q2, HPd.out.1]
                      · by_cases e2 : a < i2
                        · rw [if_pos e2, if_pos (by omega)]
                        · rw [if_neg e2, if_neg (by omega)]) (fun a b _ _ => by
                      by_cases e : a = i2
                      · rw [e, if_neg (by omega), if_pos (by omega), q2, HPd.out.2]
                      · by_cases e2 : a < i2
                        · rw [if_pos e2, if_pos (by omega)]
                        · rw [if_neg e2, if_neg (by omega)]))
                    have f8 : ((i2 : Int) != (s.d : Int)) = false := by simp; omega
                    clear q2 hTg
                    go_wp2
                    exact ⟨⟨i2 + 1, by omega, by go_num, HN⟩, by simp [intOf]; omega⟩
                  · have v1 := (hTg.out.lo.cell hir2).1
                    have v2 := ((hTg.out.lo.rows i2 hir2).cell hlt).1
                    rw [if_neg (Nat.lt_irrefl i2)] at v2
                    obtain ⟨x, hx⟩ : ∃ x, P2 i2 k = x := ⟨_, rfl⟩
                    rw [hx] at v2
                    have HX := Lib.hid hx
                    clear hx
                    have HRL : Hid (P3 i2 = fun j => P2 i2 j + P2 s.d j * x) := Lib.hid (by rw [← HP3.out, piv3_row _ _ q2, HX.out])
                    have HRR : Hid (Q3 i2 = fun j => Q2 i2 j + Q2 s.d j * x) := Lib.hid (by rw [← HQ3.out, piv3_row _ _ q2, HX.out])
                    have f8 : ((i2 : Int) != (s.d : Int)) = true := by simp; omega
                    by_cases hx0 : x.v = 0
                    · have hxz : x = 0 := El.ext' hx0
                      have HN := Lib.hid (hTg.out.congr (K := fun q => if q < i2 + 1 then P3 q else P2 q) (K' := fun q => if q < i2 + 1 then Q3 q else Q2 q) (fun a b _ _ => by
                        by_cases e : a = i2
                        · rw [e, if_neg (by omega), if_pos (by omega), HRL.out, hxz]
                          show P2 i2 b = P2 i2 b + P2 s.d b * 0
                          rw [mul0, add0]
                        · by_cases e2 : a < i2
                          · rw [if_pos e2, if_pos (by omega)]
                          · rw [if_neg e2, if_neg (by omega)]) (fun a b _ _ => by
                        by_cases e : a = i2
                        · rw [e, if_neg (by omega), if_pos (by omega), HRR.out, hxz]
                          show Q2 i2 b = Q2 i2 b + Q2 s.d b * 0
                          rw [mul0, add0]
                        · by_cases e2 : a < i2
                          · rw [if_pos e2, if_pos (by omega)]
                          · rw [if_neg e2, if_neg (by omega)]))
                      rw [hx0] at v2
                      clear hxz hx0 q2 hTg
                      go_wp2
                      exact ⟨⟨i2 + 1, by omega, by go_num, HN⟩, by simp [intOf]; omega⟩
                    · have f9 : ((x.v : Int) != 0) = true := by simp; omega
                      have f10 : ((x.v : Int) == 0) = false := by simp; omega
                      clear hx0
                      go_wp2
                      clear v1 v2 f8 f9 f10
                      have ui := (hTg.out.lo.cell hir2).1
                      have ud := (hTg.out.lo.cell hdr).1
                      refine wp_region_late (S0 := fun _ => True) (S := fun w' => w'.cell? ⟨go, i2, none⟩ = some (.slice (some ⟨g1 i2, 0, none⟩) n (c1 i2)) ∧ w'.cell? ⟨go, s.d, none⟩ = some (.slice (some ⟨g1 s.d, 0, none⟩) n (c1 s.d))) 9 10 (by kernel_rfl) rfl ⟨trivial, ui, ud⟩ (fun wd hwd hH => ?_)
                      have hTd := Lib.hid (hTg.out.later (w' := wd) (by rw [hwd]; exact (Below.refl _ _).drew))
                      clear hwd ui ud
                      refine wpAnyT_stay 0 (v := ?_) rfl (by kernel_rfl) (fun _ _ _ h => h) (Or.inl ⟨by rfl, ?_⟩) ⟨hH.1, fun _ => hH.2⟩ ?_
                      rotate_left
                      · (intro wx hx; go_simp <;> with_reducible rfl)
                      try simp only [Act.put, List.setIfInBounds_toArray, List.set_cons_zero, List.set_cons_succ]
                      refine wpAnyT_stay 1 (v := ?_) rfl (by kernel_rfl) (fun _ _ _ h => h) (Or.inl ⟨by rfl, ?_⟩) ⟨hH.1, fun _ => hH.2⟩ ?_
                      rotate_left
                      · (intro wx hx; go_simp <;> with_reducible rfl)
                      try simp only [Act.put, List.setIfInBounds_toArray, List.set_cons_zero, List.set_cons_succ]
                      refine wpAnyT_stay 2 (v := ?_) rfl (by kernel_rfl) (fun _ _ _ h => h) (Or.inl ⟨by rfl, ?_⟩) ⟨hH.1, fun _ => hH.2⟩ ?_
                      rotate_left
                      · (intro wx hx; go_simp <;> with_reducible rfl)
                      try simp only [Act.put, List.setIfInBounds_toArray, List.set_cons_zero, List.set_cons_succ]
                      refine wpAnyT_take 3 (v := ?_) rfl (by kernel_rfl) (fun _ _ _ h => h) (Or.inl ⟨by rfl, ?_⟩) hH ?_
                      rotate_left
                      · (intro wx hx; obtain ⟨_, _⟩ := hx; go_simp <;> with_reducible rfl)
                      try simp only [Act.put, List.setIfInBounds_toArray, List.set_cons_zero, List.set_cons_succ]
                      refine wpAnyT_stay 4 (v := ?_) rfl (by kernel_rfl) (fun _ _ _ h => h) (Or.inl ⟨by rfl, ?_⟩) ⟨hH.1, fun _ => hH.2⟩ ?_
                      rotate_left
                      · (intro wx hx; go_simp <;> with_reducible rfl)
                      try simp only [Act.put, List.setIfInBounds_toArray, List.set_cons_zero, List.set_cons_succ]
                      refine wpAnyT_stay 5 (v := ?_) rfl (by kernel_rfl) (fun _ _ _ h => h) (Or.inl ⟨by rfl, ?_⟩) ⟨hH.1, fun _ => hH.2⟩ ?_
                      rotate_left
                      · (intro wx hx; go_simp <;> with_reducible rfl)
                      try simp only [Act.put, List.setIfInBounds_toArray, List.set_cons_zero, List.set_cons_succ]
                      refine wpAnyT_stay 6 (v := ?_) rfl (by kernel_rfl) (fun _ _ _ h => h) (Or.inl ⟨by rfl, ?_⟩) ⟨hH.1, fun _ => hH.2⟩ ?_
                      rotate_left
                      · (intro wx hx; go_simp <;> with_reducible rfl)
                      try simp only [Act.put, List.setIfInBounds_toArray, List.set_cons_zero, List.set_cons_succ]
                      refine wpAnyT_take 7 (v := ?_) rfl (by kernel_rfl) (fun _ _ _ h => h) (Or.inl ⟨by rfl, ?_⟩) hH ?_
                      rotate_left
                      · (intro wx hx; obtain ⟨_, _⟩ := hx; go_simp <;> with_reducible rfl)
                      try simp only [Act.put, List.setIfInBounds_toArray, List.set_cons_zero, List.set_cons_succ]
                      refine wpAnyT_stay 8 (v := ?_) rfl (by kernel_rfl) (fun _ _ _ h => h) (Or.inl ⟨by rfl, ?_⟩) ⟨hH.1, fun _ => hH.2⟩ ?_
                      rotate_left
                      · (intro wx hx; go_simp <;> with_reducible rfl)
                      try simp only [Act.put, List.setIfInBounds_toArray, List.set_cons_zero, List.set_cons_succ]
                      refine wpAnyT_last 9 rfl (by kernel_rfl) (by decide) (fun K hK => ?_)
                      go_simp
                      (go_at_call 48; refine (radd w.heap.size w.heap.size (g1 i2) (g1 s.d) n (c1 i2) (c1 s.d) _ _ x _ (Lib.hid (hTd.out.lo.rows i2 hir2)) (Lib.hid (hTd.out.lo.rows s.d hdr)) (fun e => q2 (hTd.out.lo.inj _ _ hdr hir2 e).symm) n1).mono ?_; rintro e w6 ⟨rfl, ho, hr⟩; have HO := Lib.hid ho; have HR := Lib.hid hr; clear ho hr)
                      refine hK.out _ _ trivial (fun hH9 => ?_)
                      clear hK K
                      try simp only [Act.put, List.setIfInBounds_toArray, List.set_cons_zero, List.set_cons_succ]
                      refine wpAnyT_done (by kernel_rfl) ?_ _
                      have hTh := Lib.hid (hTd.out.row hir2 HO.out HR.out (K := fun q => if q = i2 then (fun j => (if i2 < i2 then P3 i2 else P2 i2) j + (if s.d < i2 then P3 s.d else P2 s.d) j * x) else (if q < i2 then P3 q else P2 q)) (fun q _ => rfl))
                      clear hTd HO HR hH hH9
                      clear hTg
                      go_wp2
                      have ui := (hTh.out.ro.cell hir2).1
                      have ud := (hTh.out.ro.cell hdr).1
                      refine wp_region_late (S0 := fun _ => True) (S := fun w' => w'.cell? ⟨go', i2, none⟩ = some (.slice (some ⟨g2 i2, 0, none⟩) n' (c2 i2)) ∧ w'.cell? ⟨go', s.d, none⟩ = some (.slice (some ⟨g2 s.d, 0, none⟩) n' (c2 s.d))) 9 10 (by kernel_rfl) rfl ⟨trivial, ui, ud⟩ (fun wd hwd hH => ?_)
                      have hTd := Lib.hid (hTh.out.later (w' := wd) (by rw [hwd]; exact (Below.refl _ _).drew))
                      clear hwd ui ud
                      refine wpAnyT_stay 0 (v := ?_) rfl (by kernel_rfl) (fun _ _ _ h => h) (Or.inl ⟨by rfl, ?_⟩) ⟨hH.1, fun _ => hH.2⟩ ?_
                      rotate_left
                      · (intro wx hx; go_simp <;> with_reducible rfl)
                      try simp only [Act.put, List.setIfInBounds_toArray, List.set_cons_zero, List.set_cons_succ]
                      refine wpAnyT_stay 1 (v := ?_) rfl (by kernel_rfl) (fun _ _ _ h => h) (Or.inl ⟨by rfl, ?_⟩) ⟨hH.1, fun _ => hH.2⟩ ?_
                      rotate_left
                      · (intro wx hx; go_simp <;> with_reducible rfl)
                      try simp only [Act.put, List.setIfInBounds_toArray, List.set_cons_zero, List.set_cons_succ]
                      refine wpAnyT_stay 2 (v := ?_) rfl (by kernel_rfl) (fun _ _ _ h => h) (Or.inl ⟨by rfl, ?_⟩) ⟨hH.1, fun _ => hH.2⟩ ?_
                      rotate_left
                      · (intro wx hx; go_simp <;> with_reducible rfl)
                      try simp only [Act.put, List.setIfInBounds_toArray, List.set_cons_zero, List.set_cons_succ]
                      refine wpAnyT_take 3 (v := ?_) rfl (by kernel_rfl) (fun _ _ _ h => h) (Or.inl ⟨by rfl, ?_⟩) hH ?_
                      rotate_left
                      · (intro wx hx; obtain ⟨_, _⟩ := hx; go_simp <;> with_reducible rfl)
                      try simp only [Act.put, List.setIfInBounds_toArray, List.set_cons_zero, List.set_cons_succ]
                      refine wpAnyT_stay 4 (v := ?_) rfl (by kernel_rfl) (fun _ _ _ h => h) (Or.inl ⟨by rfl, ?_⟩) ⟨hH.1, fun _ => hH.2⟩ ?_
                      rotate_left
                      · (intro wx hx; go_simp <;> with_reducible rfl)
                      try simp only [Act.put, List.setIfInBounds_toArray, List.set_cons_zero, List.set_cons_succ]
                      refine wpAnyT_stay 5 (v := ?_) rfl (by kernel_rfl) (fun _ _ _ h => h) (Or.inl ⟨by rfl, ?_⟩) ⟨hH.1, fun _ => hH.2⟩ ?_
                      rotate_left
                      · (intro wx hx; go_simp <;> with_reducible rfl)
                      try simp only [Act.put, List.setIfInBounds_toArray, List.set_cons_zero, List.set_cons_succ]
                      refine wpAnyT_stay 6 (v := ?_) rfl (by kernel_rfl) (fun _ _ _ h => h) (Or.inl ⟨by rfl, ?_⟩) ⟨hH.1, fun _ => hH.2⟩ ?_
                      rotate_left
                      · (intro wx hx; go_simp <;> with_reducible rfl)
                      try simp only [Act.put, List.setIfInBounds_toArray, List.set_cons_zero, List.set_cons_succ]
                      refine wpAnyT_take 7 (v := ?_) rfl (by kernel_rfl) (fun _ _ _ h => h) (Or.inl ⟨by rfl, ?_⟩) hH ?_
                      rotate_left
                      · (intro wx hx; obtain ⟨_, _⟩ := hx; go_simp <;> with_reducible rfl)
                      try simp only [Act.put, List.setIfInBounds_toArray, List.set_cons_zero, List.set_cons_succ]
                      refine wpAnyT_stay 8 (v := ?_) rfl (by kernel_rfl) (fun _ _ _ h => h) (Or.inl ⟨by rfl, ?_⟩) ⟨hH.1, fun _ => hH.2⟩ ?_
                      rotate_left
                      · (intro wx hx; go_simp <;> with_reducible rfl)
                      try simp only [Act.put, List.setIfInBounds_toArray, List.set_cons_zero, List.set_cons_succ]
                      refine wpAnyT_last 9 rfl (by kernel_rfl) (by decide) (fun K hK => ?_)
                      go_simp
                      (go_at_call 48; refine (radd w.heap.size w.heap.size (g2 i2) (g2 s.d) n' (c2 i2) (c2 s.d) _ _ x _ (Lib.hid (hTd.out.ro.rows i2 hir2)) (Lib.hid (hTd.out.ro.rows s.d hdr)) (fun e => q2 (hTd.out.ro.inj _ _ hdr hir2 e).symm) n1').mono ?_; rintro e w6 ⟨rfl, ho, hr⟩; have HO := Lib.hid ho; have HR := Lib.hid hr; clear ho hr)
                      refine hK.out _ _ trivial (fun hH9 => ?_)
                      clear hK K
                      try simp only [Act.put, List.setIfInBounds_toArray, List.set_cons_zero, List.set_cons_succ]
                      refine wpAnyT_done (by kernel_rfl) ?_ _
                      have hTi := Lib.hid (hTd.out.row' hir2 HO.out HR.out (K := fun q => if q = i2 then (fun j => (if i2 < i2 then Q3 i2 else Q2 i2) j + (if s.d < i2 then Q3 s.d else Q2 s.d) j * x) else (if q < i2 then Q3 q else Q2 q)) (fun q _ => rfl))
                      clear hTd HO HR hH hH9
                      clear hTh
                      have HN := Lib.hid (hTi.out.congr (K := fun q => if q < i2 + 1 then P3 q else P2 q) (K' := fun q => if q < i2 + 1 then Q3 q else Q2 q) (fun a b _ _ => by
                        by_cases e : a = i2
                        · subst e
                          simp only [if_true, show a < a + 1 by omega, Nat.lt_irrefl, if_false]
                          rw [HRL.out]
                          by_cases e3 : s.d < a
                          · simp only [e3, if_true, HPd.out.1]
                          · simp only [e3, if_false]
                        · rw [if_neg e]
                          by_cases e2 : a < i2
                          · rw [if_pos e2, if_pos (by omega)]
                          · rw [if_neg e2, if_neg (by omega)]) (fun a b _ _ => by
                        by_cases e : a = i2
                        · subst e
                          simp only [if_true, show a < a + 1 by omega, Nat.lt_irrefl, if_false]
                          rw [HRR.out]
                          by_cases e3 : s.d < a
                          · simp only [e3, if_true, HPd.out.2]
                          · simp only [e3, if_false]
                        · rw [if_neg e]
                          by_cases e2 : a < i2
                          · rw [if_pos e2, if_pos (by omega)]
                          · rw [if_neg e2, if_neg (by omega)]))
                      clear hTi q2
                      go_wp2
                      exact ⟨⟨i2 + 1, by omega, by go_num, HN⟩, by simp [intOf]; omega⟩
                · obtain rfl : r = i2 := by omega
                  have HE := Lib.hid (hTg.out.congr (K := P3) (K' := Q3) (fun a b ha _ => by simp [ha]) (fun a b ha _ => by simp [ha]))
                  clear hTg
                  go_wp2
                  exact ⟨⟨k + 1, _, _, _, _, by omega, by go_num, by rw [hsucc.out, hstp.out]; go_num, by rw [hsucc.out, hstp.out]; exact HE⟩, by simp [intOf]; omega⟩
          · obtain rfl : r = i := by omega
            have hstp : Hid (stp r k s = s) := Lib.hid (stp_none (fnz_not (fun q h1 h2 => hzz.out q h1 (by omega))))
            clear hzz
            go_wp2
            exact ⟨⟨k + 1, _, _, _, _, by omega, by go_num, by rw [hsucc.out, hstp.out], by rw [hsucc.out, hstp.out]; exact hTk⟩, by simp [intOf]; omega⟩
      · have hfin : Hid (red r ⟨0, L, R⟩ n = s) := Lib.hid (by
          have h1 := HRF.out (by omega) (n - k)
          rwa [show k + (n - k) = n by omega] at h1)
        go_wp2
        go_ret
        rw [hfin.out]
        exact ⟨rfl, _, _, _, _, hTk.out⟩
    · obtain rfl : n = k := by omega
      have hfin := Lib.hid (HKN.out rfl)
      go_wp2
      go_ret
      rw [hfin.out]
      exact ⟨rfl, _, _, _, _, hTk.out⟩
end Go.Proofs.Ytebpaafofombaaa
