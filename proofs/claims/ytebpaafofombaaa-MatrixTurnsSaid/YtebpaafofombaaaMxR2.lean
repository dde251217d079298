/-
  THE REFERENCE's MATRICES: Generator, Pick; what is refused.
-/
import Derived.Test.YtebpaafofombaaaMxR1
namespace Go.Proofs.Ytebpaafofombaaa
open Go.RowKit GfMath MxMath
set_option linter.unusedVariables false
theorem gen_step {k i j : Nat} (hi : i < 256) (hj : j < 256) (h : ¬ i < k) (hne : i ≠ j) : el (gpw (i ^^^ j) 254) = genM k i j := by
  have hx : i ^^^ j < 256 := Nat.xor_lt_two_pow (n := 8) hi hj
  have h0 : i ^^^ j ≠ 0 := fun e => hne (by
    have h1 := add_eq_zero (a := el i) (b := el j) (El.ext' (by rw [add_v, el_v hi, el_v hj, e]; rfl))
    have h2 := congrArg El.v h1
    rwa [el_v hi, el_v hj] at h2)
  have hp := gpw_lt (i ^^^ j) 254
  apply El.ext'
  rw [genM_low h hi hj, el_v hp, ← gdv_ref (by decide) hx h0, gmul_comm (by decide) hp, gmul_one hp]
def genTo (k : Nat) (i j : Nat) : Mat := fun p q => if p < i ∨ (p = i ∧ q < j) then genM k p q else 0
theorem genTo_next {k i j : Nat} (p q : Nat) : genTo k i (j + 1) p q = if p = i ∧ q = j then genM k i j else genTo k i j p q := by
  unfold genTo
  by_cases e : p = i ∧ q = j
  · obtain ⟨rfl, rfl⟩ := e
    simp
  · rw [if_neg e]
    by_cases h1 : p < i ∨ (p = i ∧ q < j)
    · rw [if_pos h1, if_pos (by rcases h1 with h | h <;> omega)]
    · rw [if_neg h1, if_neg (by omega)]
set_option maxRecDepth 100000 in
set_option maxHeartbeats 4000000 in
theorem rgen_ok (k n : Nat) (w : World) (h0 : 0 < k) (h1 : k ≤ n) (h2 : n ≤ 255) :
    Calls Try.prog 18 #[.int .i64 k, .int .i64 n] w (RetMM (lmat n k (genM k)) 0 w) := by
  go_enter Try.func18, Try.ntmps18
  go_wp2_with (go_at_call 37; refine (zeros_any n k _ h2 (by omega)).mono ?_; rintro e w1 ⟨v, g, rfl, hz⟩; have HZ := Lib.hid hz; clear hz)
  go_loopw [7, 8] (fun vi _ wr => ∃ i : Nat, i ≤ n ∧ vi = .int .i64 i ∧ Hid (ZSt w v n k g (genTo k i 0) wr)) (fun vi _ _ => n - (intOf vi).toNat)
  case atStart => exact ⟨0, by omega, rfl, Lib.hid (HZ.out.congr fun i j _ _ => by simp [genTo])⟩
  case round =>
    obtain ⟨i, hi, rfl, hst⟩ := hrel
    clear HZ
    by_cases hlt : i < n
    · go_wp2
      go_loopw [8] (fun vj wr => ∃ j : Nat, j ≤ k ∧ vj = .int .i64 j ∧ Hid (ZSt w v n k g (genTo k i j) wr)) (fun vj _ => k - (intOf vj).toNat)
      case atStart => exact ⟨0, by omega, rfl, hst⟩
      case round =>
        obtain ⟨j, hj, rfl, hs2⟩ := hrel
        clear hst
        by_cases hjl : j < k
        · obtain ⟨go, c, rfl, hc1, hc2, hcell⟩ := hs2.out.outer (by omega : 0 < n)
          have o1 := hcell i hlt
          obtain ⟨i1, i2⟩ := hs2.out.inner hlt hjl
          have z : (genTo k i j i j).v = 0 := by simp [genTo]; rfl
          rw [z] at i1
          clear hcell z
          by_cases hik : i < k
          · by_cases hij : i = j
            · subst hij
              have HN := Lib.hid (hs2.out.set_ (K := genTo k i (i + 1)) hlt hjl (show 1 < 256 by decide) (fun p q hp hq => by
                rw [genTo_next]
                by_cases e : p = i ∧ q = i
                · rw [if_pos e, if_pos e, genM_top hik]; simp [dl]; rfl
                · rw [if_neg e, if_neg e]))
              have e1 : decide ((i : Int) < (k : Int)) = true := decide_eq_true (by omega)
              have e2 : decide ((k : Int) ≤ (i : Int)) = false := decide_eq_false (by omega)
              go_wp2
              exact ⟨⟨i + 1, by omega, by go_num, HN⟩, by simp [intOf]; omega⟩
            · have HN := Lib.hid (hs2.out.congr (K := genTo k i (j + 1)) (fun p q hp hq => by
                rw [genTo_next]
                by_cases e : p = i ∧ q = j
                · rw [if_pos e, e.1, e.2, genM_top hik]; simp [genTo, dl, hij]
                · rw [if_neg e]))
              have e1 : decide ((i : Int) < (k : Int)) = true := decide_eq_true (by omega)
              have e2 : decide ((k : Int) ≤ (i : Int)) = false := decide_eq_false (by omega)
              have e3 : ((i : Int) == (j : Int)) = false := by simp; omega
              go_wp2
              exact ⟨⟨j + 1, by omega, by go_num, HN⟩, by simp [intOf]; omega⟩
          · have hx : i ^^^ j < 256 := Nat.xor_lt_two_pow (n := 8) (by omega) (by omega)
            have hp := gpw_lt (i ^^^ j) 254
            have HN := fun d : Nat => (hs2.out.drewN d).set_ (K := genTo k i (j + 1)) hlt hjl hp (fun p q hp hq => by
              rw [genTo_next]
              by_cases e : p = i ∧ q = j
              · rw [if_pos e, if_pos e, gen_step (by omega) (by omega) hik (by omega)]
              · rw [if_neg e, if_neg e])
            have HN := Lib.hid HN
            have e1 : decide ((i : Int) < (k : Int)) = false := decide_eq_false (by omega)
            have e2 : decide ((k : Int) ≤ (i : Int)) = true := decide_eq_true (by omega)
            have e4 := xor_i64 i j (by omega) (by omega)
            obtain ⟨x, hxx⟩ : ∃ x, i ^^^ j = x := ⟨_, rfl⟩
            have HX := Lib.hid hxx
            rw [hxx] at e4 hx hp HN
            clear hxx
            have e5 : IntKind.u8.wrap (x : Int) = (x : Int) := IntWalk.u8_in _ (by omega)
            have hne : go ≠ g i := fun e => own_blk_ne hs2.out.own (hs2.out.rows i hlt).2 (by decide) (by rw [e]; rfl)
            go_wp2
            refine wp_region_late (S0 := fun w' => w'.cell? ⟨go, i, none⟩ = some (.slice (some ⟨g i, 0, none⟩) k k)) (S := fun w' => w'.cell? ⟨g i, j, none⟩ = some (.int .u8 ((0 : Nat) : Int)) ∧ w'.frozen? ⟨g i, j, none⟩ = false) 11 12 (by kernel_rfl) rfl ⟨o1, i1, i2⟩ (fun wd hwd hH => ?_)
            subst hwd
            have hnd := Lib.hid (HN.out 1)
            refine wpAnyT_stay 0 (v := ?_) rfl (by kernel_rfl) (fun _ _ _ h => h) (Or.inl ⟨by rfl, ?_⟩) ⟨hH.1, fun _ => hH.2⟩ ?_
            rotate_left
            · (intro wx hx; go_simp <;> with_reducible rfl)
            try simp only [Act.put, List.setIfInBounds_toArray, List.set_cons_zero, List.set_cons_succ]
            refine wpAnyT_stay 1 (v := ?_) rfl (by kernel_rfl) (fun _ _ _ h => h) (Or.inl ⟨by rfl, ?_⟩) ⟨hH.1, fun _ => hH.2⟩ ?_
            rotate_left
            · (intro wx hx; go_simp <;> with_reducible rfl)
            try simp only [Act.put, List.setIfInBounds_toArray, List.set_cons_zero, List.set_cons_succ]
            refine wpAnyT_stay 2 (v := ?_) rfl (by kernel_rfl) (fun _ _ _ h => h) (Or.inl ⟨by rfl, ?_⟩) ⟨hH.1, fun _ => hH.2⟩ ?_
            rotate_left
            · (intro wx hx; go_simp <;> with_reducible rfl)
            try simp only [Act.put, List.setIfInBounds_toArray, List.set_cons_zero, List.set_cons_succ]
            refine wpAnyT_stay 3 (v := ?_) rfl (by kernel_rfl) (fun _ _ _ h => h) (Or.inl ⟨by rfl, ?_⟩) ⟨hH.1, fun _ => hH.2⟩ ?_
            rotate_left
            · (intro wx hx; go_simp <;> with_reducible rfl)
            try simp only [Act.put, List.setIfInBounds_toArray, List.set_cons_zero, List.set_cons_succ]
            refine wpAnyT_stay 4 (v := ?_) rfl (by kernel_rfl) (fun _ _ _ h => h) (Or.inl ⟨by rfl, ?_⟩) ⟨hH.1, fun _ => hH.2⟩ ?_
            rotate_left
            · (intro wx hx; go_simp <;> with_reducible rfl)
            try simp only [Act.put, List.setIfInBounds_toArray, List.set_cons_zero, List.set_cons_succ]
            refine wpAnyT_stay 5 (v := ?_) rfl (by kernel_rfl) (fun _ _ _ h => h) (Or.inl ⟨by rfl, ?_⟩) ⟨hH.1, fun _ => hH.2⟩ ?_
            rotate_left
            · (intro wx hx; go_simp <;> with_reducible rfl)
            try simp only [Act.put, List.setIfInBounds_toArray, List.set_cons_zero, List.set_cons_succ]
            refine wpAnyT_stay 6 (v := ?_) rfl (by kernel_rfl) (fun _ _ _ h => h) (Or.inl ⟨by rfl, ?_⟩) ⟨hH.1, fun _ => hH.2⟩ ?_
            rotate_left
            · (intro wx hx; go_simp <;> with_reducible rfl)
            try simp only [Act.put, List.setIfInBounds_toArray, List.set_cons_zero, List.set_cons_succ]
            refine wpAnyT_stay 7 (v := ?_) rfl (by kernel_rfl) (fun _ _ _ h => h) (Or.inl ⟨by rfl, ?_⟩) ⟨hH.1, fun _ => hH.2⟩ ?_
            rotate_left
            · (intro wx hx; go_simp <;> with_reducible rfl)
            try simp only [Act.put, List.setIfInBounds_toArray, List.set_cons_zero, List.set_cons_succ]
            refine wpAnyT_stay 8 (v := ?_) rfl (by kernel_rfl) (fun _ _ _ h => h) (Or.inl ⟨by rfl, ?_⟩) ⟨hH.1, fun _ => hH.2⟩ ?_
            rotate_left
            · (intro wx hx; go_simp <;> with_reducible rfl)
            try simp only [Act.put, List.setIfInBounds_toArray, List.set_cons_zero, List.set_cons_succ]
            refine wpAnyT_one 9 rfl (by kernel_rfl) (fun K hK => ?_)
            go_simp
            (go_at_call 39; refine (rinv_any x hx _).mono ?_; rintro e w1 ⟨rfl, rfl⟩)
            refine hK.out _ _ hH (fun hH9 => ?_)
            clear hK K
            try simp only [Act.put, List.setIfInBounds_toArray, List.set_cons_zero, List.set_cons_succ]
            refine wpAnyT_stay 10 (v := ?_) rfl (by kernel_rfl) (fun _ _ _ h => h) (Or.inl ⟨by rfl, ?_⟩) ⟨hH.1, fun _ => hH.2⟩ ?_
            rotate_left
            · (intro wx hx; go_simp <;> with_reducible rfl)
            try simp only [Act.put, List.setIfInBounds_toArray, List.set_cons_zero, List.set_cons_succ]
            refine wpAnyT_last 11 rfl (by kernel_rfl) (by decide) (fun K hK => ?_)
            have i1d := hH.2.1
            have i2d := hH.2.2
            go_simp
            refine hK.out _ _ ?_ (fun hH11 => ?_)
            · exact (World.cell?_setCell_other _ ⟨g i, j, none⟩ ⟨go, i, none⟩ _ (fun e => hne (by have h9 := congrArg Addr.block e; first | exact h9 | exact h9.symm))).trans hH.1
            clear hK K
            try simp only [Act.put]
            refine wpAnyT_done (by kernel_rfl) ?_ _
            clear hH hH9 hH11 i1d i2d o1 i1 i2
            go_wp2
            exact ⟨⟨j + 1, by omega, by go_num, hnd⟩, by simp [intOf]; omega⟩
        · obtain rfl : k = j := by omega
          have HN := Lib.hid (hs2.out.congr (K := genTo k (i + 1) 0) (fun p q hp hq => by
            unfold genTo
            by_cases h1 : p < i ∨ (p = i ∧ q < k)
            · rw [if_pos h1, if_pos (by omega)]
            · rw [if_neg h1, if_neg (by omega)]))
          go_wp2
          exact ⟨⟨i + 1, by omega, by go_num, HN⟩, by simp [intOf]; omega⟩
    · obtain rfl : n = i := by omega
      go_wp2
      go_ret2
      exact ⟨_, rfl, (hst.out.congr fun i j hi _ => by simp [genTo, hi]).toM (by unfold maxLen; omega)⟩
end Go.Proofs.Ytebpaafofombaaa
