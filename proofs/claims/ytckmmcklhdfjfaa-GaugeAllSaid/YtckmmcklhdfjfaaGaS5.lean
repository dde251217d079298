/-
  The library's merging in place. (printed by gen_gas5.py)
-/
import Derived.Test.YtckmmcklhdfjfaaGaS4
namespace Go.Proofs.Ytckmmcklhdfjfaa
open Go.RowKit
set_option linter.unusedVariables false
/-- What a merge answers. -/
def SymC (l : List Nat) (A : Option Addr) (cap B g rc n a m b : Nat) (f : Nat → Nat) (w : World) : Prop :=
  Calls Try.prog 46 #[.slice (some ⟨g, 0, none⟩) n rc, .int .i64 (a : Int), .int .i64 (m : Int), .int .i64 (b : Int), .func (.func 33) #[] #[.pointer (some ⟨B, 0, none⟩)]] w
    fun e w' => e = .returned (.tuple #[]) ∧ ∃ f', Merged l f f' a m b ∧ St w g n f' w'
set_option maxRecDepth 100000 in
set_option maxHeartbeats 16000000 in
theorem sym_right (A : Option Addr) (cap : Nat) (l : List Nat) (B : Nat) (g rc n a m b mid : Nat) (f : Nat → Nat) (w : World) (hF : Hid (Fl l)) (hC : Hid (ClIn w A n cap l B g)) (hS : Hid (St w g n f w)) (h1 : a + 1 < m) (h2 : m + 1 < b) (h3 : b ≤ n) (hn : n < 4611686018427387904)
    (hm : mid = (a + b) / 2) (hmm0 : mid < m)
    (HI : Hid (∀ a' m' b' f' w', b' - a' < b - a → a' < m' → m' < b' → b' ≤ n → Hid (ClIn w' A n cap l B g) → Hid (St w' g n f' w') → SymC l A cap B g rc n a' m' b' f' w')) : SymC l A cap B g rc n a m b f w := by
  unfold SymC at HI ⊢
  have r0 : ((b : Int) - (m : Int) == 1) = false := by rw [beq_eq_false_iff_ne]; omega
  have r1 : ((m : Int) - (a : Int) == 1) = false := by rw [beq_eq_false_iff_ne]; omega
  have hmid : ((a : Int) + (b : Int)) / 2 = (mid : Int) := by omega
  have HMID := Lib.hid hm
  have ham : a < m := by omega
  have hmb : m < b := by omega
  have hm1 : 2 * mid ≤ a + b := by omega
  have hm2 : a + b ≤ 2 * mid + 1 := by omega
  have b0 : (a : Int) + (b : Int) ≤ 9223372036854775807 := by omega
  clear hm
  have hmm : mid < m := hmm0
  have d0 : decide ((m : Int) > (mid : Int)) = true := decide_eq_true (by omega)
  have d00 : decide (mid < m) = true := decide_eq_true (by omega)
  obtain ⟨s0, hs0⟩ : ∃ q : Nat, (mid : Int) + (m : Int) - (b : Int) = (q : Int) := ⟨mid + m - b, by omega⟩
  have HS0 := Lib.hid (show s0 = mid + m - b from by omega)
  have hsr : s0 ≤ mid := by omega
  have hsb : mid + m ≤ s0 + b := by omega
  have b3 : (mid : Int) + (m : Int) ≤ 9223372036854775807 := by omega
  obtain ⟨p, hp⟩ : ∃ q : Nat, (mid : Int) + (m : Int) - 1 = (q : Int) := ⟨mid + m - 1, by omega⟩
  have HP := Lib.hid (show p = mid + m - 1 from by omega)
  have hpm1 : p + 1 ≤ mid + m := by omega
  have hpm2 : mid + m ≤ p + 1 := by omega
  go_enter Try.func46, Try.ntmps46
  go_wp2
  clear hp r0 r1 d0 hmid
  clear hs0
  go_loopw [20, 21, 23] (fun vi vj _ wr => ∃ (s r : Nat), s0 ≤ s ∧ s ≤ r ∧ r ≤ mid ∧ vi = .int .i64 s ∧ vj = .int .i64 r ∧ Hid (s = s0 ∨ 0 ≤ cfl l (f (p - (s - 1))) (f (s - 1))) ∧ Hid (r = mid ∨ cfl l (f (p - r)) (f r) < 0) ∧ Hid (St w g n f wr)) (fun vi vj _ _ => (intOf vj).toNat - (intOf vi).toNat)
  case atStart => exact ⟨s0, mid, Nat.le_refl _, hsr, Nat.le_refl _, rfl, rfl, Lib.hid (.inl rfl), Lib.hid (.inl rfl), hS⟩
  case round =>
    obtain ⟨s, r, hmi, hij, hjb, rfl, rfl, HL, HR, HSj⟩ := hrel
    by_cases hlt : s < r
    · have d1 : decide (s < r) = true := decide_eq_true hlt
      have b1 : (s : Int) + (r : Int) ≤ 9223372036854775807 := by omega
      obtain ⟨h, hh⟩ : ∃ h : Nat, ((s : Int) + (r : Int)) / 2 = (h : Int) := ⟨(s + r) / 2, by omega⟩
      have hh1 : s ≤ h := by omega
      have hh2 : h < r := by omega
      obtain ⟨pc, hpc⟩ : ∃ q : Nat, (p : Int) - (h : Int) = (q : Int) := ⟨p - h, by omega⟩
      have HPC := Lib.hid (show pc = p - h from by omega)
      have hpn : pc < n := by omega
      have hpw : IntKind.i64.wrap ((p : Int) - (h : Int)) = (pc : Int) := by rw [IntKind.wrap_i64]; omega
      clear hpc
      have c1 := HSj.out.row.cell (i := pc) (by omega)
      have c2 := HSj.out.row.cell (i := h) (by omega)
      have HCL := Lib.hid (HSj.out.cmp hF hC hn (x := pc) (y := h) (by omega) (by omega))
      have pX : (0 : Int) ≤ (pc : Int) := by omega
      have qX : (pc : Int) < (n : Int) := by omega
      have pY : (0 : Int) ≤ (h : Int) := by omega
      have qY : (h : Int) < (n : Int) := by omega
      obtain ⟨x, ex⟩ : ∃ x, f pc = x := ⟨_, rfl⟩
      obtain ⟨y, ey⟩ : ∃ y, f h = y := ⟨_, rfl⟩
      rw [ex, ey] at HCL
      rw [ex] at c1
      rw [ey] at c2
      have HX := Lib.hid ex
      have HY := Lib.hid ey
      clear ex ey
      obtain ⟨cv, ecv⟩ : ∃ cv, cfl l x y = cv := ⟨_, rfl⟩
      rw [ecv] at HCL
      have HCV := Lib.hid ecv
      clear ecv
      have hdc : decide (cv < 0) = true ∨ decide (cv < 0) = false := by cases decide (cv < 0) <;> simp
      rcases hdc with hd | hd
      · have hv : cv < 0 := of_decide_eq_true hd
        go_wp2_with fail
        go_region_held3 (fun w' => w'.cell? ⟨g, pc, none⟩ = some (.int .i64 (x : Int)) ∧ w'.cell? ⟨g, h, none⟩ = some (.int .i64 (y : Int))) (first | exact ⟨c1, c2⟩ | exact ⟨k1, k2⟩ | fail) (first
          | (go_at_call 33; refine (HCL.out _ (by first | exact Below.refl _ _ | exact ⟨rfl, rfl, rfl, Nat.le_refl _, fun _ _ => rfl⟩)).mono ?_; rintro e w3 ⟨rfl, hb3⟩; have k1 := cell_later hb3 c1; have k2 := cell_later hb3 c2))
        have HS3 := Lib.hid (HSj.out.below (undrew hb3))
        clear hb3 c1 c2 k1 k2 HCL HSj
        go_wp2
        exact ⟨⟨s, h, hmi, by omega, by omega, rfl, rfl, HL, Lib.hid (.inr (by rw [← HPC.out, HX.out, HY.out, HCV.out]; exact hv)), HS3⟩, by simp [intOf]; omega⟩
      · have hv : 0 ≤ cv := Int.not_lt.1 (of_decide_eq_false hd)
        go_wp2_with fail
        go_region_held3 (fun w' => w'.cell? ⟨g, pc, none⟩ = some (.int .i64 (x : Int)) ∧ w'.cell? ⟨g, h, none⟩ = some (.int .i64 (y : Int))) (first | exact ⟨c1, c2⟩ | exact ⟨k1, k2⟩ | fail) (first
          | (go_at_call 33; refine (HCL.out _ (by first | exact Below.refl _ _ | exact ⟨rfl, rfl, rfl, Nat.le_refl _, fun _ _ => rfl⟩)).mono ?_; rintro e w3 ⟨rfl, hb3⟩; have k1 := cell_later hb3 c1; have k2 := cell_later hb3 c2))
        have HS3 := Lib.hid (HSj.out.below (undrew hb3))
        clear hb3 c1 c2 k1 k2 HCL HSj
        go_wp2
        exact ⟨⟨h + 1, r, by omega, by omega, hjb, by go_num, rfl, Lib.hid (.inr (by rw [show h + 1 - 1 = h by omega, ← HPC.out, HX.out, HY.out, HCV.out]; exact hv)), HR, HS3⟩, by simp [intOf]; omega⟩
    · obtain rfl : s = r := by omega
      have d1 : decide (s < s) = false := decide_eq_false hlt
      obtain ⟨en, hen⟩ : ∃ q : Nat, (mid : Int) + (m : Int) - (s : Int) = (q : Int) := ⟨mid + m - s, by omega⟩
      have hes1 : en + s ≤ mid + m := by omega
      have hes2 : mid + m ≤ en + s := by omega
      have HLL := Lib.hid (show s = mid + m - b ∨ ¬ cfl l (f (mid + m - 1 - (s - 1))) (f (s - 1)) < 0 from by rw [← HP.out]; have h := HL.out; rw [HS0.out] at h; exact h.imp_right fun h => by omega)
      have HRR := Lib.hid (show s = mid ∨ cfl l (f (mid + m - 1 - s)) (f s) < 0 from by rw [← HP.out]; exact HR.out)
      clear HL HR
      by_cases c1 : s = mid
      · by_cases c3 : en < b
        · have c1a : s ≤ mid := by omega
          have c1b : mid ≤ s := by omega
          clear c1
          have t1 : decide (s < m) = true := decide_eq_true (by omega)
          have t2 : decide (m < en) = false := decide_eq_false (by omega)
          have t3 : decide (a < s) = true := decide_eq_true (by omega)
          have t4 : decide (s < mid) = false := decide_eq_false (by omega)
          have t5 : decide (mid < en) = true := decide_eq_true (by omega)
          have t6 : decide (en < b) = true := decide_eq_true (by omega)
          have HE0 := Lib.hid (show rotF f s m en = f from by rw [show en = m by omega]; exact rot_none_right f s m)
          have HS5 : Hid (St w g n (rotF f s m en) wr) := by rw [HE0.out]; exact HSj
          clear HSj hlt
          go_wp2_with (first
            | (go_at_call 46; refine (HI.out mid en b (rotF f s m en) _ (by omega) (by omega) (by omega) (by omega) (Lib.hid (hC.out.keep HS5.out.keep)) (Lib.hid HS5.out.here)).mono ?_; rintro e w7 ⟨rfl, g2, hM2, hS7⟩; have HM2 := Lib.hid hM2; have HS7 := Lib.hid (HS5.out.join hS7); clear hM2 hS7))
          go_end0
          exact ⟨rfl, _, merged_both HMID.out ham hmb (by omega) (by rw [if_pos hmm]; exact ⟨by omega, by omega⟩) (by rw [if_pos hmm]; exact HLL.out.imp_right fun h => by omega) (by rw [if_pos hmm]; exact HRR.out) ⟨fun h => by omega, fun _ => rfl⟩ ⟨fun _ => HM2.out, fun h => absurd h (by omega)⟩, HS7.out⟩
        · have c1a : s ≤ mid := by omega
          have c1b : mid ≤ s := by omega
          clear c1
          have t1 : decide (s < m) = true := decide_eq_true (by omega)
          have t2 : decide (m < en) = false := decide_eq_false (by omega)
          have t3 : decide (a < s) = true := decide_eq_true (by omega)
          have t4 : decide (s < mid) = false := decide_eq_false (by omega)
          have t5 : decide (mid < en) = true := decide_eq_true (by omega)
          have t6 : decide (en < b) = false := decide_eq_false (by omega)
          have HE0 := Lib.hid (show rotF f s m en = f from by rw [show en = m by omega]; exact rot_none_right f s m)
          have HS5 : Hid (St w g n (rotF f s m en) wr) := by rw [HE0.out]; exact HSj
          clear HSj hlt
          go_wp2
          go_end0
          exact ⟨rfl, _, merged_both HMID.out ham hmb (by omega) (by rw [if_pos hmm]; exact ⟨by omega, by omega⟩) (by rw [if_pos hmm]; exact HLL.out.imp_right fun h => by omega) (by rw [if_pos hmm]; exact HRR.out) ⟨fun h => by omega, fun _ => rfl⟩ ⟨fun h => by omega, fun _ => rfl⟩, HS5.out⟩
      · by_cases c2 : a < s
        · by_cases c3 : en < b
          · have t1 : decide (s < m) = true := decide_eq_true (by omega)
            have t2 : decide (m < en) = true := decide_eq_true (by omega)
            have t3 : decide (a < s) = true := decide_eq_true (by omega)
            have t4 : decide (s < mid) = true := decide_eq_true (by omega)
            have t5 : decide (mid < en) = true := decide_eq_true (by omega)
            have t6 : decide (en < b) = true := decide_eq_true (by omega)
            have HRO := Lib.hid (rotate_any (.func (.func 33) #[] #[.pointer (some ⟨B, 0, none⟩)]) g rc n s m en f wr (Lib.hid HSj.out.here) (by omega) (by omega) (by omega) hn)
            have tk1 : True := trivial
            clear hlt
            go_wp2_with (first
              | (go_at_call 49; refine HRO.out.mono ?_; rintro e w5 ⟨rfl, hS5⟩; have HS5 := Lib.hid (HSj.out.join hS5); clear hS5)
              | (have _t := tk1; go_at_call 46; refine (HI.out a s mid (rotF f s m en) _ (by omega) (by omega) (by omega) (by omega) (Lib.hid (hC.out.keep HS5.out.keep)) (Lib.hid HS5.out.here)).mono ?_; rintro e w6 ⟨rfl, g1, hM1, hS6⟩; have HM1 := Lib.hid hM1; have HS6 := Lib.hid (HS5.out.join hS6); clear tk1 _t hM1 hS6)
              | (go_at_call 46; refine (HI.out mid en b g1 _ (by omega) (by omega) (by omega) (by omega) (Lib.hid (hC.out.keep HS6.out.keep)) (Lib.hid HS6.out.here)).mono ?_; rintro e w7 ⟨rfl, g2, hM2, hS7⟩; have HM2 := Lib.hid hM2; have HS7 := Lib.hid (HS6.out.join hS7); clear hM2 hS7))
            go_end0
            exact ⟨rfl, _, merged_both HMID.out ham hmb (by omega) (by rw [if_pos hmm]; exact ⟨by omega, by omega⟩) (by rw [if_pos hmm]; exact HLL.out.imp_right fun h => by omega) (by rw [if_pos hmm]; exact HRR.out) ⟨fun _ => HM1.out, fun h => absurd h (by omega)⟩ ⟨fun _ => HM2.out, fun h => absurd h (by omega)⟩, HS7.out⟩
          · have t1 : decide (s < m) = true := decide_eq_true (by omega)
            have t2 : decide (m < en) = true := decide_eq_true (by omega)
            have t3 : decide (a < s) = true := decide_eq_true (by omega)
            have t4 : decide (s < mid) = true := decide_eq_true (by omega)
            have t5 : decide (mid < en) = true := decide_eq_true (by omega)
            have t6 : decide (en < b) = false := decide_eq_false (by omega)
            have HRO := Lib.hid (rotate_any (.func (.func 33) #[] #[.pointer (some ⟨B, 0, none⟩)]) g rc n s m en f wr (Lib.hid HSj.out.here) (by omega) (by omega) (by omega) hn)
            clear hlt
            go_wp2_with (first
              | (go_at_call 49; refine HRO.out.mono ?_; rintro e w5 ⟨rfl, hS5⟩; have HS5 := Lib.hid (HSj.out.join hS5); clear hS5)
              | (go_at_call 46; refine (HI.out a s mid (rotF f s m en) _ (by omega) (by omega) (by omega) (by omega) (Lib.hid (hC.out.keep HS5.out.keep)) (Lib.hid HS5.out.here)).mono ?_; rintro e w6 ⟨rfl, g1, hM1, hS6⟩; have HM1 := Lib.hid hM1; have HS6 := Lib.hid (HS5.out.join hS6); clear hM1 hS6))
            go_end0
            exact ⟨rfl, _, merged_both HMID.out ham hmb (by omega) (by rw [if_pos hmm]; exact ⟨by omega, by omega⟩) (by rw [if_pos hmm]; exact HLL.out.imp_right fun h => by omega) (by rw [if_pos hmm]; exact HRR.out) ⟨fun _ => HM1.out, fun h => absurd h (by omega)⟩ ⟨fun h => by omega, fun _ => rfl⟩, HS6.out⟩
        · by_cases c3 : en < b
          · have t1 : decide (s < m) = true := decide_eq_true (by omega)
            have t2 : decide (m < en) = true := decide_eq_true (by omega)
            have t3 : decide (a < s) = false := decide_eq_false (by omega)
            have t5 : decide (mid < en) = true := decide_eq_true (by omega)
            have t6 : decide (en < b) = true := decide_eq_true (by omega)
            have HRO := Lib.hid (rotate_any (.func (.func 33) #[] #[.pointer (some ⟨B, 0, none⟩)]) g rc n s m en f wr (Lib.hid HSj.out.here) (by omega) (by omega) (by omega) hn)
            clear hlt
            go_wp2_with (first
              | (go_at_call 49; refine HRO.out.mono ?_; rintro e w5 ⟨rfl, hS5⟩; have HS5 := Lib.hid (HSj.out.join hS5); clear hS5)
              | (go_at_call 46; refine (HI.out mid en b (rotF f s m en) _ (by omega) (by omega) (by omega) (by omega) (Lib.hid (hC.out.keep HS5.out.keep)) (Lib.hid HS5.out.here)).mono ?_; rintro e w7 ⟨rfl, g2, hM2, hS7⟩; have HM2 := Lib.hid hM2; have HS7 := Lib.hid (HS5.out.join hS7); clear hM2 hS7))
            go_end0
            exact ⟨rfl, _, merged_both HMID.out ham hmb (by omega) (by rw [if_pos hmm]; exact ⟨by omega, by omega⟩) (by rw [if_pos hmm]; exact HLL.out.imp_right fun h => by omega) (by rw [if_pos hmm]; exact HRR.out) ⟨fun h => by omega, fun _ => rfl⟩ ⟨fun _ => HM2.out, fun h => absurd h (by omega)⟩, HS7.out⟩
          · have t1 : decide (s < m) = true := decide_eq_true (by omega)
            have t2 : decide (m < en) = true := decide_eq_true (by omega)
            have t3 : decide (a < s) = false := decide_eq_false (by omega)
            have t5 : decide (mid < en) = true := decide_eq_true (by omega)
            have t6 : decide (en < b) = false := decide_eq_false (by omega)
            have HRO := Lib.hid (rotate_any (.func (.func 33) #[] #[.pointer (some ⟨B, 0, none⟩)]) g rc n s m en f wr (Lib.hid HSj.out.here) (by omega) (by omega) (by omega) hn)
            clear hlt
            go_wp2_with (first
              | (go_at_call 49; refine HRO.out.mono ?_; rintro e w5 ⟨rfl, hS5⟩; have HS5 := Lib.hid (HSj.out.join hS5); clear hS5))
            go_end0
            exact ⟨rfl, _, merged_both HMID.out ham hmb (by omega) (by rw [if_pos hmm]; exact ⟨by omega, by omega⟩) (by rw [if_pos hmm]; exact HLL.out.imp_right fun h => by omega) (by rw [if_pos hmm]; exact HRR.out) ⟨fun h => by omega, fun _ => rfl⟩ ⟨fun h => by omega, fun _ => rfl⟩, HS5.out⟩
set_option maxRecDepth 100000 in
set_option maxHeartbeats 16000000 in
theorem sym_left (A : Option Addr) (cap : Nat) (l : List Nat) (B : Nat) (g rc n a m b mid : Nat) (f : Nat → Nat) (w : World) (hF : Hid (Fl l)) (hC : Hid (ClIn w A n cap l B g)) (hS : Hid (St w g n f w)) (h1 : a + 1 < m) (h2 : m + 1 < b) (h3 : b ≤ n) (hn : n < 4611686018427387904)
    (hm : mid = (a + b) / 2) (hmm0 : ¬ mid < m)
    (HI : Hid (∀ a' m' b' f' w', b' - a' < b - a → a' < m' → m' < b' → b' ≤ n → Hid (ClIn w' A n cap l B g) → Hid (St w' g n f' w') → SymC l A cap B g rc n a' m' b' f' w')) : SymC l A cap B g rc n a m b f w := by
  unfold SymC at HI ⊢
  have r0 : ((b : Int) - (m : Int) == 1) = false := by rw [beq_eq_false_iff_ne]; omega
  have r1 : ((m : Int) - (a : Int) == 1) = false := by rw [beq_eq_false_iff_ne]; omega
  have hmid : ((a : Int) + (b : Int)) / 2 = (mid : Int) := by omega
  have HMID := Lib.hid hm
  have ham : a < m := by omega
  have hmb : m < b := by omega
  have hm1 : 2 * mid ≤ a + b := by omega
  have hm2 : a + b ≤ 2 * mid + 1 := by omega
  have b0 : (a : Int) + (b : Int) ≤ 9223372036854775807 := by omega
  clear hm
  have hmm : ¬ mid < m := hmm0
  have d0 : decide ((m : Int) > (mid : Int)) = false := decide_eq_false (by omega)
  have d00 : decide (mid < m) = false := decide_eq_false (by omega)
  have hsr : a ≤ m := by omega
  have hsb : mid + m ≤ a + b := by omega
  have b3 : (mid : Int) + (m : Int) ≤ 9223372036854775807 := by omega
  obtain ⟨p, hp⟩ : ∃ q : Nat, (mid : Int) + (m : Int) - 1 = (q : Int) := ⟨mid + m - 1, by omega⟩
  have HP := Lib.hid (show p = mid + m - 1 from by omega)
  have hpm1 : p + 1 ≤ mid + m := by omega
  have hpm2 : mid + m ≤ p + 1 := by omega
  go_enter Try.func46, Try.ntmps46
  go_wp2
  clear hp r0 r1 d0 hmid
  go_loopw [20, 21, 23] (fun vi vj _ wr => ∃ (s r : Nat), a ≤ s ∧ s ≤ r ∧ r ≤ m ∧ vi = .int .i64 s ∧ vj = .int .i64 r ∧ Hid (s = a ∨ 0 ≤ cfl l (f (p - (s - 1))) (f (s - 1))) ∧ Hid (r = m ∨ cfl l (f (p - r)) (f r) < 0) ∧ Hid (St w g n f wr)) (fun vi vj _ _ => (intOf vj).toNat - (intOf vi).toNat)
  case atStart => exact ⟨a, m, Nat.le_refl _, hsr, Nat.le_refl _, rfl, rfl, Lib.hid (.inl rfl), Lib.hid (.inl rfl), hS⟩
  case round =>
    obtain ⟨s, r, hmi, hij, hjb, rfl, rfl, HL, HR, HSj⟩ := hrel
    by_cases hlt : s < r
    · have d1 : decide (s < r) = true := decide_eq_true hlt
      have b1 : (s : Int) + (r : Int) ≤ 9223372036854775807 := by omega
      obtain ⟨h, hh⟩ : ∃ h : Nat, ((s : Int) + (r : Int)) / 2 = (h : Int) := ⟨(s + r) / 2, by omega⟩
      have hh1 : s ≤ h := by omega
      have hh2 : h < r := by omega
      obtain ⟨pc, hpc⟩ : ∃ q : Nat, (p : Int) - (h : Int) = (q : Int) := ⟨p - h, by omega⟩
      have HPC := Lib.hid (show pc = p - h from by omega)
      have hpn : pc < n := by omega
      have hpw : IntKind.i64.wrap ((p : Int) - (h : Int)) = (pc : Int) := by rw [IntKind.wrap_i64]; omega
      clear hpc
      have c1 := HSj.out.row.cell (i := pc) (by omega)
      have c2 := HSj.out.row.cell (i := h) (by omega)
      have HCL := Lib.hid (HSj.out.cmp hF hC hn (x := pc) (y := h) (by omega) (by omega))
      have pX : (0 : Int) ≤ (pc : Int) := by omega
      have qX : (pc : Int) < (n : Int) := by omega
      have pY : (0 : Int) ≤ (h : Int) := by omega
      have qY : (h : Int) < (n : Int) := by omega
      obtain ⟨x, ex⟩ : ∃ x, f pc = x := ⟨_, rfl⟩
      obtain ⟨y, ey⟩ : ∃ y, f h = y := ⟨_, rfl⟩
      rw [ex, ey] at HCL
      rw [ex] at c1
      rw [ey] at c2
      have HX := Lib.hid ex
      have HY := Lib.hid ey
      clear ex ey
      obtain ⟨cv, ecv⟩ : ∃ cv, cfl l x y = cv := ⟨_, rfl⟩
      rw [ecv] at HCL
      have HCV := Lib.hid ecv
      clear ecv
      have hdc : decide (cv < 0) = true ∨ decide (cv < 0) = false := by cases decide (cv < 0) <;> simp
      rcases hdc with hd | hd
      · have hv : cv < 0 := of_decide_eq_true hd
        go_wp2_with fail
        go_region_held3 (fun w' => w'.cell? ⟨g, pc, none⟩ = some (.int .i64 (x : Int)) ∧ w'.cell? ⟨g, h, none⟩ = some (.int .i64 (y : Int))) (first | exact ⟨c1, c2⟩ | exact ⟨k1, k2⟩ | fail) (first
          | (go_at_call 33; refine (HCL.out _ (by first | exact Below.refl _ _ | exact ⟨rfl, rfl, rfl, Nat.le_refl _, fun _ _ => rfl⟩)).mono ?_; rintro e w3 ⟨rfl, hb3⟩; have k1 := cell_later hb3 c1; have k2 := cell_later hb3 c2))
        have HS3 := Lib.hid (HSj.out.below (undrew hb3))
        clear hb3 c1 c2 k1 k2 HCL HSj
        go_wp2
        exact ⟨⟨s, h, hmi, by omega, by omega, rfl, rfl, HL, Lib.hid (.inr (by rw [← HPC.out, HX.out, HY.out, HCV.out]; exact hv)), HS3⟩, by simp [intOf]; omega⟩
      · have hv : 0 ≤ cv := Int.not_lt.1 (of_decide_eq_false hd)
        go_wp2_with fail
        go_region_held3 (fun w' => w'.cell? ⟨g, pc, none⟩ = some (.int .i64 (x : Int)) ∧ w'.cell? ⟨g, h, none⟩ = some (.int .i64 (y : Int))) (first | exact ⟨c1, c2⟩ | exact ⟨k1, k2⟩ | fail) (first
          | (go_at_call 33; refine (HCL.out _ (by first | exact Below.refl _ _ | exact ⟨rfl, rfl, rfl, Nat.le_refl _, fun _ _ => rfl⟩)).mono ?_; rintro e w3 ⟨rfl, hb3⟩; have k1 := cell_later hb3 c1; have k2 := cell_later hb3 c2))
        have HS3 := Lib.hid (HSj.out.below (undrew hb3))
        clear hb3 c1 c2 k1 k2 HCL HSj
        go_wp2
        exact ⟨⟨h + 1, r, by omega, by omega, hjb, by go_num, rfl, Lib.hid (.inr (by rw [show h + 1 - 1 = h by omega, ← HPC.out, HX.out, HY.out, HCV.out]; exact hv)), HR, HS3⟩, by simp [intOf]; omega⟩
    · obtain rfl : s = r := by omega
      have d1 : decide (s < s) = false := decide_eq_false hlt
      obtain ⟨en, hen⟩ : ∃ q : Nat, (mid : Int) + (m : Int) - (s : Int) = (q : Int) := ⟨mid + m - s, by omega⟩
      have hes1 : en + s ≤ mid + m := by omega
      have hes2 : mid + m ≤ en + s := by omega
      have HLL := Lib.hid (show s = a ∨ ¬ cfl l (f (mid + m - 1 - (s - 1))) (f (s - 1)) < 0 from by rw [← HP.out]; have h := HL.out; exact h.imp_right fun h => by omega)
      have HRR := Lib.hid (show s = m ∨ cfl l (f (mid + m - 1 - s)) (f s) < 0 from by rw [← HP.out]; exact HR.out)
      clear HL HR
      by_cases c1 : s = m
      · by_cases c3 : m < mid
        · have c1a : s ≤ m := by omega
          have c1b : m ≤ s := by omega
          clear c1
          have t1 : decide (s < m) = false := decide_eq_false (by omega)
          have t3 : decide (a < s) = true := decide_eq_true (by omega)
          have t4 : decide (s < mid) = true := decide_eq_true (by omega)
          have t5 : decide (mid < en) = false := decide_eq_false (by omega)
          have HE0 := Lib.hid (show rotF f s m en = f from by rw [show s = m by omega]; exact rot_none_left f m en)
          have HS5 : Hid (St w g n (rotF f s m en) wr) := by rw [HE0.out]; exact HSj
          clear HSj hlt
          go_wp2_with (first
            | (go_at_call 46; refine (HI.out a s mid (rotF f s m en) _ (by omega) (by omega) (by omega) (by omega) (Lib.hid (hC.out.keep HS5.out.keep)) (Lib.hid HS5.out.here)).mono ?_; rintro e w6 ⟨rfl, g1, hM1, hS6⟩; have HM1 := Lib.hid hM1; have HS6 := Lib.hid (HS5.out.join hS6); clear hM1 hS6))
          go_end0
          exact ⟨rfl, _, merged_both HMID.out ham hmb (by omega) (by rw [if_neg hmm]; exact ⟨by omega, by omega⟩) (by rw [if_neg hmm]; exact HLL.out.imp_right fun h => by omega) (by rw [if_neg hmm]; exact HRR.out) ⟨fun _ => HM1.out, fun h => absurd h (by omega)⟩ ⟨fun h => by omega, fun _ => rfl⟩, HS6.out⟩
        · have c1a : s ≤ m := by omega
          have c1b : m ≤ s := by omega
          clear c1
          have t1 : decide (s < m) = false := decide_eq_false (by omega)
          have t3 : decide (a < s) = true := decide_eq_true (by omega)
          have t4 : decide (s < mid) = false := decide_eq_false (by omega)
          have t5 : decide (mid < en) = false := decide_eq_false (by omega)
          have HE0 := Lib.hid (show rotF f s m en = f from by rw [show s = m by omega]; exact rot_none_left f m en)
          have HS5 : Hid (St w g n (rotF f s m en) wr) := by rw [HE0.out]; exact HSj
          clear HSj hlt
          go_wp2
          go_end0
          exact ⟨rfl, _, merged_both HMID.out ham hmb (by omega) (by rw [if_neg hmm]; exact ⟨by omega, by omega⟩) (by rw [if_neg hmm]; exact HLL.out.imp_right fun h => by omega) (by rw [if_neg hmm]; exact HRR.out) ⟨fun h => by omega, fun _ => rfl⟩ ⟨fun h => by omega, fun _ => rfl⟩, HS5.out⟩
      · by_cases c2 : a < s
        · by_cases c3 : en < b
          · have t1 : decide (s < m) = true := decide_eq_true (by omega)
            have t2 : decide (m < en) = true := decide_eq_true (by omega)
            have t3 : decide (a < s) = true := decide_eq_true (by omega)
            have t4 : decide (s < mid) = true := decide_eq_true (by omega)
            have t5 : decide (mid < en) = true := decide_eq_true (by omega)
            have t6 : decide (en < b) = true := decide_eq_true (by omega)
            have HRO := Lib.hid (rotate_any (.func (.func 33) #[] #[.pointer (some ⟨B, 0, none⟩)]) g rc n s m en f wr (Lib.hid HSj.out.here) (by omega) (by omega) (by omega) hn)
            have tk1 : True := trivial
            clear hlt
            go_wp2_with (first
              | (go_at_call 49; refine HRO.out.mono ?_; rintro e w5 ⟨rfl, hS5⟩; have HS5 := Lib.hid (HSj.out.join hS5); clear hS5)
              | (have _t := tk1; go_at_call 46; refine (HI.out a s mid (rotF f s m en) _ (by omega) (by omega) (by omega) (by omega) (Lib.hid (hC.out.keep HS5.out.keep)) (Lib.hid HS5.out.here)).mono ?_; rintro e w6 ⟨rfl, g1, hM1, hS6⟩; have HM1 := Lib.hid hM1; have HS6 := Lib.hid (HS5.out.join hS6); clear tk1 _t hM1 hS6)
              | (go_at_call 46; refine (HI.out mid en b g1 _ (by omega) (by omega) (by omega) (by omega) (Lib.hid (hC.out.keep HS6.out.keep)) (Lib.hid HS6.out.here)).mono ?_; rintro e w7 ⟨rfl, g2, hM2, hS7⟩; have HM2 := Lib.hid hM2; have HS7 := Lib.hid (HS6.out.join hS7); clear hM2 hS7))
            go_end0
            exact ⟨rfl, _, merged_both HMID.out ham hmb (by omega) (by rw [if_neg hmm]; exact ⟨by omega, by omega⟩) (by rw [if_neg hmm]; exact HLL.out.imp_right fun h => by omega) (by rw [if_neg hmm]; exact HRR.out) ⟨fun _ => HM1.out, fun h => absurd h (by omega)⟩ ⟨fun _ => HM2.out, fun h => absurd h (by omega)⟩, HS7.out⟩
          · have t1 : decide (s < m) = true := decide_eq_true (by omega)
            have t2 : decide (m < en) = true := decide_eq_true (by omega)
            have t3 : decide (a < s) = true := decide_eq_true (by omega)
            have t4 : decide (s < mid) = true := decide_eq_true (by omega)
            have t5 : decide (mid < en) = true := decide_eq_true (by omega)
            have t6 : decide (en < b) = false := decide_eq_false (by omega)
            have HRO := Lib.hid (rotate_any (.func (.func 33) #[] #[.pointer (some ⟨B, 0, none⟩)]) g rc n s m en f wr (Lib.hid HSj.out.here) (by omega) (by omega) (by omega) hn)
            clear hlt
            go_wp2_with (first
              | (go_at_call 49; refine HRO.out.mono ?_; rintro e w5 ⟨rfl, hS5⟩; have HS5 := Lib.hid (HSj.out.join hS5); clear hS5)
              | (go_at_call 46; refine (HI.out a s mid (rotF f s m en) _ (by omega) (by omega) (by omega) (by omega) (Lib.hid (hC.out.keep HS5.out.keep)) (Lib.hid HS5.out.here)).mono ?_; rintro e w6 ⟨rfl, g1, hM1, hS6⟩; have HM1 := Lib.hid hM1; have HS6 := Lib.hid (HS5.out.join hS6); clear hM1 hS6))
            go_end0
            exact ⟨rfl, _, merged_both HMID.out ham hmb (by omega) (by rw [if_neg hmm]; exact ⟨by omega, by omega⟩) (by rw [if_neg hmm]; exact HLL.out.imp_right fun h => by omega) (by rw [if_neg hmm]; exact HRR.out) ⟨fun _ => HM1.out, fun h => absurd h (by omega)⟩ ⟨fun h => by omega, fun _ => rfl⟩, HS6.out⟩
        · by_cases c3 : en < b
          · have t1 : decide (s < m) = true := decide_eq_true (by omega)
            have t2 : decide (m < en) = true := decide_eq_true (by omega)
            have t3 : decide (a < s) = false := decide_eq_false (by omega)
            have t5 : decide (mid < en) = true := decide_eq_true (by omega)
            have t6 : decide (en < b) = true := decide_eq_true (by omega)
            have HRO := Lib.hid (rotate_any (.func (.func 33) #[] #[.pointer (some ⟨B, 0, none⟩)]) g rc n s m en f wr (Lib.hid HSj.out.here) (by omega) (by omega) (by omega) hn)
            clear hlt
            go_wp2_with (first
              | (go_at_call 49; refine HRO.out.mono ?_; rintro e w5 ⟨rfl, hS5⟩; have HS5 := Lib.hid (HSj.out.join hS5); clear hS5)
              | (go_at_call 46; refine (HI.out mid en b (rotF f s m en) _ (by omega) (by omega) (by omega) (by omega) (Lib.hid (hC.out.keep HS5.out.keep)) (Lib.hid HS5.out.here)).mono ?_; rintro e w7 ⟨rfl, g2, hM2, hS7⟩; have HM2 := Lib.hid hM2; have HS7 := Lib.hid (HS5.out.join hS7); clear hM2 hS7))
            go_end0
            exact ⟨rfl, _, merged_both HMID.out ham hmb (by omega) (by rw [if_neg hmm]; exact ⟨by omega, by omega⟩) (by rw [if_neg hmm]; exact HLL.out.imp_right fun h => by omega) (by rw [if_neg hmm]; exact HRR.out) ⟨fun h => by omega, fun _ => rfl⟩ ⟨fun _ => HM2.out, fun h => absurd h (by omega)⟩, HS7.out⟩
          · have t1 : decide (s < m) = true := decide_eq_true (by omega)
            have t2 : decide (m < en) = true := decide_eq_true (by omega)
            have t3 : decide (a < s) = false := decide_eq_false (by omega)
            have t5 : decide (mid < en) = true := decide_eq_true (by omega)
            have t6 : decide (en < b) = false := decide_eq_false (by omega)
            have HRO := Lib.hid (rotate_any (.func (.func 33) #[] #[.pointer (some ⟨B, 0, none⟩)]) g rc n s m en f wr (Lib.hid HSj.out.here) (by omega) (by omega) (by omega) hn)
            clear hlt
            go_wp2_with (first
              | (go_at_call 49; refine HRO.out.mono ?_; rintro e w5 ⟨rfl, hS5⟩; have HS5 := Lib.hid (HSj.out.join hS5); clear hS5))
            go_end0
            exact ⟨rfl, _, merged_both HMID.out ham hmb (by omega) (by rw [if_neg hmm]; exact ⟨by omega, by omega⟩) (by rw [if_neg hmm]; exact HLL.out.imp_right fun h => by omega) (by rw [if_neg hmm]; exact HRR.out) ⟨fun h => by omega, fun _ => rfl⟩ ⟨fun h => by omega, fun _ => rfl⟩, HS5.out⟩
/-- THE MERGE IN PLACE. -/
theorem sym_any (A : Option Addr) (cap : Nat) (l : List Nat) (B : Nat) (g rc n : Nat) (hF : Hid (Fl l)) (hn : n < 4611686018427387904) :
    ∀ (d a m b : Nat) (f : Nat → Nat) (w : World), b - a ≤ d → a < m → m < b → b ≤ n → Hid (ClIn w A n cap l B g) → Hid (St w g n f w) → SymC l A cap B g rc n a m b f w
  | 0, a, m, b, f, w, hd, h1, h2, h3, hC, hS => absurd hd (by omega)
  | d + 1, a, m, b, f, w, hd, h1, h2, h3, hC, hS => by
    by_cases c1 : m = a + 1
    · exact sym_first A cap l B g rc n a m b f w hF hC hS c1 h2 h3 hn
    · by_cases c2 : b = m + 1
      · exact sym_last A cap l B g rc n a m b f w hF hC hS c2 (by omega) h3 hn
      · have HI := Lib.hid (fun a' m' b' f' w' (k0 : b' - a' < b - a) k1 k2 k3 k4 k5 => sym_any A cap l B g rc n hF hn d a' m' b' f' w' (by omega) k1 k2 k3 k4 k5)
        by_cases c3 : (a + b) / 2 < m
        · exact sym_right A cap l B g rc n a m b _ f w hF hC hS (by omega) (by omega) h3 hn rfl c3 HI
        · exact sym_left A cap l B g rc n a m b _ f w hF hC hS (by omega) (by omega) h3 hn rfl c3 HI
end Go.Proofs.Ytckmmcklhdfjfaa
