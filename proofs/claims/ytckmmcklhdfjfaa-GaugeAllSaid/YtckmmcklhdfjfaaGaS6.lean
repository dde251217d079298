/-
  The library's stable sort, any length: nothing falls, nothing is lost.
-/
import Derived.Test.YtckmmcklhdfjfaaGaS5
namespace Go.Proofs.Ytckmmcklhdfjfaa
open Go.RowKit
set_option linter.unusedVariables false
/-- Nothing falls below hi, but at the borders of blocks of bs. -/
def Srt (l : List Nat) (f : Nat → Nat) (bs hi : Nat) : Prop := ∀ i, i + 1 < hi → (∀ t, i + 1 ≠ t * bs) → Le l (f i) (f (i + 1))
/-- The same; below a only at the borders of blocks twice as long. -/
def Mix (l : List Nat) (f : Nat → Nat) (bs a n : Nat) : Prop := ∀ i, i + 1 < n → ((∀ t, i + 1 ≠ t * bs) ∨ (i + 1 < a ∧ ∀ t, i + 1 ≠ t * (2 * bs))) → Le l (f i) (f (i + 1))
theorem between {bs s j : Nat} (h1 : s * bs < j) (h2 : j < (s + 1) * bs) (t : Nat) : j ≠ t * bs := by
  intro e
  rw [e] at h1 h2
  have := Nat.lt_of_mul_lt_mul_right h1
  have := Nat.lt_of_mul_lt_mul_right h2
  omega
theorem Srt.step {l : List Nat} {f f' : Nat → Nat} {bs a e t : Nat} (h : Srt l f bs a) (ha : a = t * bs) (hr : Rearr f f' a e) (hs : Sd l f' a e) : Srt l f' bs e := by
  intro i hi hb
  by_cases c1 : i + 1 < a
  · rw [hr.out i (by omega), hr.out (i + 1) (by omega)]
    exact h i c1 hb
  · by_cases c2 : i + 1 = a
    · exact absurd (c2.trans ha) (hb t)
    · exact hs i (i + 1) (by omega) (by omega) hi
theorem Mix.start {l : List Nat} {f : Nat → Nat} {bs n : Nat} (h : Srt l f bs n) : Mix l f bs 0 n := fun i hi hb => h i hi (hb.elim id fun h => absurd h.1 (by omega))
theorem Mix.first {l : List Nat} {f : Nat → Nat} {bs q n : Nat} (h : Mix l f bs (q * (2 * bs)) n) {e : Nat} (he : e ≤ q * (2 * bs) + bs) (hn : e ≤ n) : Sd l f (q * (2 * bs)) e := by
  refine Sd.of_adj fun i h1 h2 => h i (by omega) (.inl (between (s := 2 * q) ?_ ?_))
  · have : 2 * q * bs = q * (2 * bs) := by rw [Nat.mul_comm 2 q, Nat.mul_assoc]
    omega
  · have : (2 * q + 1) * bs = q * (2 * bs) + bs := by rw [Nat.add_mul, Nat.one_mul, Nat.mul_comm 2 q, Nat.mul_assoc]
    omega
theorem Mix.second {l : List Nat} {f : Nat → Nat} {bs q n : Nat} (h : Mix l f bs (q * (2 * bs)) n) {e : Nat} (he : e ≤ q * (2 * bs) + 2 * bs) (hn : e ≤ n) : Sd l f (q * (2 * bs) + bs) e := by
  refine Sd.of_adj fun i h1 h2 => h i (by omega) (.inl (between (s := 2 * q + 1) ?_ ?_))
  · have : (2 * q + 1) * bs = q * (2 * bs) + bs := by rw [Nat.add_mul, Nat.one_mul, Nat.mul_comm 2 q, Nat.mul_assoc]
    omega
  · have : (2 * q + 1 + 1) * bs = q * (2 * bs) + 2 * bs := by rw [show 2 * q + 1 + 1 = q * 2 + 2 by omega, Nat.add_mul, Nat.mul_assoc]
    omega
theorem Mix.step {l : List Nat} {f f' : Nat → Nat} {bs q n e : Nat} (h : Mix l f bs (q * (2 * bs)) n) (he : e ≤ q * (2 * bs) + 2 * bs) (hn : e ≤ n) (hd : e = n ∨ e = (q + 1) * (2 * bs)) (hm : Merged l f f' (q * (2 * bs)) (q * (2 * bs) + bs) e) (hbe : q * (2 * bs) + bs ≤ e) : Mix l f' bs e n := by
  have hs := hm.sd (h.first (Nat.le_refl _) (by omega)) (h.second he hn)
  have e1 : (q + 1) * (2 * bs) = q * (2 * bs) + 2 * bs := by rw [Nat.add_mul, Nat.one_mul]
  have e2 : 2 * q * bs = q * (2 * bs) := by rw [Nat.mul_comm 2 q, Nat.mul_assoc]
  have e3 : (2 * q + 2) * bs = q * (2 * bs) + 2 * bs := by rw [show 2 * q + 2 = q * 2 + 2 by omega, Nat.add_mul, Nat.mul_assoc]
  intro i hi hb
  by_cases c1 : i + 1 < q * (2 * bs)
  · rw [hm.re.out i (by omega), hm.re.out (i + 1) (by omega)]
    exact h i hi (hb.imp_right fun h => ⟨c1, h.2⟩)
  · by_cases c2 : i + 1 = q * (2 * bs)
    · rcases hb with hb | hb
      · exact absurd (c2.trans e2.symm) (hb _)
      · exact absurd c2 (hb.2 _)
    · by_cases c3 : i + 1 < e
      · exact hs i (i + 1) (by omega) (by omega) c3
      · by_cases c4 : i + 1 = e
        · rcases hd with hd | hd
          · omega
          · rcases hb with hb | hb
            · exact absurd (by omega : i + 1 = (2 * q + 2) * bs) (hb _)
            · exact absurd (by omega : i + 1 = (q + 1) * (2 * bs)) (hb.2 _)
        · rw [hm.re.out i (by omega), hm.re.out (i + 1) (by omega)]
          rcases hb with hb | hb
          · exact h i hi (.inl hb)
          · omega
theorem Mix.done {l : List Nat} {f : Nat → Nat} {bs n : Nat} (h : Mix l f bs n n) : Srt l f (2 * bs) n := fun i hi hb => h i hi (.inr ⟨hi, hb⟩)
theorem Mix.rest {l : List Nat} {f : Nat → Nat} {bs q n : Nat} (h : Mix l f bs (q * (2 * bs)) n) (hn : n ≤ q * (2 * bs) + bs) : Srt l f (2 * bs) n := by
  intro i hi hb
  by_cases c1 : i + 1 < q * (2 * bs)
  · exact h i hi (.inr ⟨c1, hb⟩)
  · have c2 := hb q
    exact (h.first hn (Nat.le_refl _)) i (i + 1) (by omega) (by omega) hi
theorem Srt.all {l : List Nat} {f : Nat → Nat} {bs n : Nat} (h : Srt l f bs n) (hb : n ≤ bs) : Sd l f 0 n := by
  refine Sd.of_adj fun i _ hi => h i hi fun t e => ?_
  rcases Nat.eq_zero_or_pos t with rfl | ht
  · omega
  · have := Nat.le_mul_of_pos_left bs ht
    omega
set_option maxRecDepth 100000 in
set_option maxHeartbeats 4000000 in
theorem stable_any (A : Option Addr) (n cap : Nat) (l : List Nat) (B g rc : Nat) (f : Nat → Nat) (w : World) (hF : Hid (Fl l)) (hC : Hid (ClIn w A n cap l B g)) (hS : Hid (St w g n f w)) (hn : n ≤ 17592186043904) :
    Calls Try.prog 39 #[.slice (some ⟨g, 0, none⟩) n rc, .int .i64 (n : Int), .func (.func 33) #[] #[.pointer (some ⟨B, 0, none⟩)]] w
      fun e w' => e = .returned (.tuple #[]) ∧ ∃ f', Rearr f f' 0 n ∧ Sd l f' 0 n ∧ St w g n f' w' := by
  have hn' : n < 4611686018427387904 := by omega
  have HSY := Lib.hid (fun a m b f' w' h1 h2 h3 (hC' : Hid (ClIn w' A n cap l B g)) (hS' : Hid (St w' g n f' w')) => sym_any A cap l B g rc n hF hn' (b - a) a m b f' w' (Nat.le_refl _) h1 h2 h3 hC' hS')
  unfold SymC at HSY
  have HIN := Lib.hid (fun a b f' w' h1 h2 (hC' : Hid (ClIn w' A n cap l B g)) (hS' : Hid (St w' g n f' w')) => insertion_any A n cap l B g rc a b f' w' hF hC' hS' h1 h2 hn')
  go_enter Try.func39, Try.ntmps39
  go_wp2_with fail
  go_loopw [7, 8] (fun va vb wr => ∃ (t a : Nat) (fj : Nat → Nat), Hid (a = t * 20) ∧ a ≤ n ∧ va = .int .i64 a ∧ vb = .int .i64 ((a + 20 : Nat) : Int) ∧ Hid (St w g n fj wr) ∧ Hid (Rearr f fj 0 n) ∧ Hid (Srt l fj 20 a)) (fun va _ _ => n - (intOf va).toNat)
  case atStart => exact ⟨0, 0, f, Lib.hid rfl, by omega, rfl, rfl, hS, Lib.hid (Rearr.refl _ _ _), Lib.hid fun i hi => absurd hi (by omega)⟩
  case round =>
    obtain ⟨t, a, fj, HA, han, rfl, rfl, HSj, HRE, HSR⟩ := hrel
    by_cases hlt : a + 20 ≤ n
    · have d1 : decide (a + 20 ≤ n) = true := decide_eq_true hlt
      have d2 : decide ((a : Int) + 20 ≤ (n : Int)) = true := decide_eq_true (by omega)
      have HC1 := Lib.hid (hC.out.keep HSj.out.keep)
      have HH := Lib.hid (HIN.out a (a + 20) fj wr (by omega) hlt HC1 (Lib.hid HSj.out.here))
      have HLW := Lib.hid (insTo_law (l := l) (a := a) fj 19)
      go_wp2_with (go_at_call 45; refine HH.out.mono ?_; rintro e w2 ⟨rfl, hS2⟩; have HS2 := Lib.hid (HSj.out.join hS2); clear hS2)
      have e19 : a + 20 - a - 1 = 19 := by omega
      rw [e19] at HS2
      exact ⟨⟨t + 1, a + 20, _, Lib.hid (by have := HA.out; omega), by omega, by go_num, by go_num, HS2, Lib.hid (HRE.out.trans (HLW.out.1.wider (Nat.zero_le _) (by omega))), Lib.hid (HSR.out.step HA.out HLW.out.1 HLW.out.2)⟩, by simp [intOf]; omega⟩
    · have d1 : decide (a + 20 ≤ n) = false := decide_eq_false hlt
      have d2 : decide ((a : Int) + 20 ≤ (n : Int)) = false := decide_eq_false (by omega)
      have HC1 := Lib.hid (hC.out.keep HSj.out.keep)
      have HH := Lib.hid (HIN.out a n fj wr han (Nat.le_refl _) HC1 (Lib.hid HSj.out.here))
      have HLW : Hid (Rearr fj (insTo l a (n - a - 1) fj) 0 n ∧ Srt l (insTo l a (n - a - 1) fj) 20 n) := Lib.hid (by
        have h := insTo_law (l := l) (a := a) fj (n - a - 1)
        by_cases e : n = a
        · have e0 : n - a - 1 = 0 := by omega
          rw [e0]
          show Rearr fj fj 0 n ∧ Srt l fj 20 n
          rw [e]
          exact ⟨Rearr.refl _ _ _, HSR.out⟩
        · rw [show a + (n - a - 1) + 1 = n by omega] at h
          exact ⟨h.1.wider (Nat.zero_le _) (Nat.le_refl _), HSR.out.step HA.out h.1 h.2⟩)
      generalize insTo l a (n - a - 1) fj = f1 at *
      go_wp2_with (go_at_call 45; refine HH.out.mono ?_; rintro e w2 ⟨rfl, hS2⟩; have HS2 := Lib.hid (HSj.out.join hS2); clear hS2)
      have HR1 := Lib.hid (HRE.out.trans HLW.out.1)
      have HT1 := Lib.hid HLW.out.2
      clear HLW HRE HSR HH HSj HC1
      go_loopw [6, 7, 8, 9] (fun vs _ _ _ wr => ∃ (bs : Nat) (fj : Nat → Nat), 0 < bs ∧ bs ≤ 2 * n + 20 ∧ vs = .int .i64 bs ∧ Hid (St w g n fj wr) ∧ Hid (Rearr f fj 0 n) ∧ Hid (Srt l fj bs n)) (fun vs _ _ _ _ => n - (intOf vs).toNat)
      case atStart => exact ⟨20, _, by omega, by omega, rfl, HS2, HR1, HT1⟩
      case round =>
        obtain ⟨bs, fj, hb0, hb1, rfl, HSj, HRE, HSR⟩ := hrel
        clear HS2 HR1 HT1
        by_cases hlt2 : bs < n
        · have d3 : decide (bs < n) = true := decide_eq_true hlt2
          obtain ⟨c2, hc2⟩ : ∃ c2 : Nat, 2 * (bs : Int) = (c2 : Int) := ⟨2 * bs, by omega⟩
          have HC2 := Lib.hid (show c2 = 2 * bs from by omega)
          have hcl : c2 ≤ 2 * n := by omega
          have hcb : bs < c2 := by omega
          have hcc : c2 ≤ bs + bs := by omega
          have b3 : (bs : Int) ≤ 17592186043904 := by omega
          go_wp2_with fail
          go_loopw [7, 8] (fun va vb wr => ∃ (q a : Nat) (fi : Nat → Nat), Hid (a = q * (2 * bs)) ∧ a ≤ n ∧ va = .int .i64 a ∧ vb = .int .i64 ((a + c2 : Nat) : Int) ∧ Hid (St w g n fi wr) ∧ Hid (Rearr f fi 0 n) ∧ Hid (Mix l fi bs a n)) (fun va _ _ => n - (intOf va).toNat)
          case atStart => exact ⟨0, 0, fj, Lib.hid (by omega), by omega, rfl, by go_num, HSj, HRE, Lib.hid (Mix.start HSR.out)⟩
          case round =>
            obtain ⟨q, a, fi, HA, han, rfl, rfl, HSi, HRi, HMi⟩ := hrel
            clear HSj HRE HSR
            obtain ⟨mm, hmm⟩ : ∃ mm : Nat, (a : Int) + (bs : Int) = (mm : Int) := ⟨a + bs, by omega⟩
            have hm1 : mm ≤ a + bs := by omega
            have hm2 : a + bs ≤ mm := by omega
            have HMM := Lib.hid (show mm = a + bs from by omega)
            by_cases hlt3 : a + c2 ≤ n
            · have d4 : decide (a + c2 ≤ n) = true := decide_eq_true hlt3
              have d5 : decide ((a : Int) + (c2 : Int) ≤ (n : Int)) = true := decide_eq_true (by omega)
              have HH := Lib.hid (HSY.out a mm (a + c2) fi _ (by omega) (by omega) hlt3 (Lib.hid (hC.out.keep HSi.out.keep)) (Lib.hid HSi.out.here))
              go_wp2_with (go_at_call 46; refine HH.out.mono ?_; rintro e w3 ⟨rfl, g1, hM1, hS3⟩; have HM1 := Lib.hid hM1; have HS3 := Lib.hid (HSi.out.join hS3); clear hM1 hS3)
              exact ⟨⟨q + 1, a + c2, g1, Lib.hid (by rw [HC2.out, HA.out, Nat.add_mul, Nat.one_mul]), hlt3, by go_num, by go_num, HS3, Lib.hid (HRi.out.trans (HM1.out.re.wider (Nat.zero_le _) hlt3)),
                Lib.hid (by
                  have h := HM1.out
                  have hx := HMi.out
                  rw [HMM.out] at h
                  rw [HA.out] at h hx ⊢
                  rw [HC2.out] at h ⊢
                  exact hx.step (Nat.le_refl _) (by rw [← HA.out, ← HC2.out]; exact hlt3) (.inr (by rw [Nat.add_mul, Nat.one_mul])) h (by omega))⟩, by simp [intOf]; omega⟩
            · have d4 : decide (a + c2 ≤ n) = false := decide_eq_false hlt3
              have d5 : decide ((a : Int) + (c2 : Int) ≤ (n : Int)) = false := decide_eq_false (by omega)
              by_cases hlt4 : mm < n
              · have d6 : decide (mm < n) = true := decide_eq_true hlt4
                have HH := Lib.hid (HSY.out a mm n fi _ (by omega) hlt4 (Nat.le_refl _) (Lib.hid (hC.out.keep HSi.out.keep)) (Lib.hid HSi.out.here))
                go_wp2_with (go_at_call 46; refine HH.out.mono ?_; rintro e w3 ⟨rfl, g1, hM1, hS3⟩; have HM1 := Lib.hid hM1; have HS3 := Lib.hid (HSi.out.join hS3); clear hM1 hS3)
                exact ⟨⟨c2, g1, by omega, by omega, by go_num, HS3, Lib.hid (HRi.out.trans (HM1.out.re.wider (Nat.zero_le _) (Nat.le_refl _))),
                  Lib.hid (by
                    have h := HM1.out
                    have hx := HMi.out
                    rw [HMM.out] at h
                    rw [HA.out] at h hx
                    rw [HC2.out]
                    exact (hx.step (by rw [← HA.out, ← HC2.out]; omega) (Nat.le_refl _) (.inl rfl) h (by rw [← HA.out]; omega)).done)⟩, by simp [intOf]; omega⟩
              · have d6 : decide (mm < n) = false := decide_eq_false hlt4
                go_wp2
                exact ⟨⟨c2, fi, by omega, by omega, by go_num, HSi, HRi,
                  Lib.hid (by
                    have hx := HMi.out
                    rw [HA.out] at hx
                    rw [HC2.out]
                    exact hx.rest (by rw [← HA.out]; omega))⟩, by simp [intOf]; omega⟩
        · have d3 : decide (bs < n) = false := decide_eq_false hlt2
          go_wp2
          go_end0
          exact ⟨rfl, fj, HRE.out, HSR.out.all (by omega), HSj.out⟩
end Go.Proofs.Ytckmmcklhdfjfaa
