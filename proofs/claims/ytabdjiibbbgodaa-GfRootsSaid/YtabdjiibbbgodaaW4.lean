/-
  The walks of the reference: Mul, Inverse, Div, Log, Pow, Exp.
-/
import Derived.Test.YtabdjiibbbgodaaW3
namespace Go.Proofs.Ytabdjiibbbgodaa
open Go.RowKit GfMath
theorem dbl_ck2 : allB 256 (fun a => Nat.beq (dbl a) (if 256 ≤ a * 2 then (a * 2) ^^^ 285 else a * 2)) = true := by decide +kernel
theorem dbl_285 {x : Nat} (h : x < 256) : dbl x = if 256 ≤ x * 2 then (x * 2) ^^^ 285 else x * 2 := Nat.eq_of_beq_eq_true (of_allB dbl_ck2 x h)
set_option maxRecDepth 100000 in
set_option maxHeartbeats 400000 in
theorem rmul_any (a b : Nat) (ha : a < 256) (hb : b < 256) (w : World) :
    Calls Try.prog 18 #[.int .u8 a, .int .u8 b] w fun e w' => e = .returned (.int .u8 (gmul a b)) ∧ w = w' := by
  go_enter Try.func18, Try.ntmps18
  go_wp2
  go_loop [5, 6, 7] (fun va vb vr => ∃ n r x y : Nat, r < 256 ∧ x < 256 ∧ y < 2 ^ n ∧ n ≤ 8 ∧ va = .int .i64 x ∧ vb = .int .i64 y ∧ vr = .int .i64 r ∧ mulF n r x y = gmul a b) (fun _ v _ => (intOf v).toNat)
  case atStart => exact ⟨8, 0, a, b, by omega, by omega, by omega, by omega, rfl, rfl, rfl, rfl⟩
  case round =>
    obtain ⟨n, r, x, y, hr, hx, hy, hn, rfl, rfl, rfl, he⟩ := hrel
    by_cases h0 : y = 0
    · subst h0
      rw [mulF_zero] at he
      subst he
      go_wp2
      go_ret
      exact ⟨by simp, rfl⟩
    · obtain ⟨n, rfl⟩ : ∃ m, n = m + 1 := by
        cases n with
        | zero => simp at hy; omega
        | succ m => exact ⟨m, rfl⟩
      rw [mulF_step] at he
      have hy1 : y < 256 := Nat.lt_of_lt_of_le hy (Nat.pow_le_pow_right (by omega) hn)
      have hy2 : y / 2 < 2 ^ n := by rw [Nat.pow_succ] at hy; omega
      have hxr := xor_lt hr hx
      have hd := dbl_lt hx
      have H := Lib.hid he
      clear he
      have hb1 := Lib.hid (and1_i64 y (by omega))
      have hd2 := Lib.hid (dbl_285 hx)
      go_wp2
      · have h1 : y % 2 = 1 := by
          have : (bits BinOp.and IntKind.i64 (↑y) 1 == 1) = true := by assumption
          rw [hb1.out, beq_iff_eq] at this; omega
        have he := H.out
        rw [if_pos h1] at he
        have hd3 := hd2.out
        rw [if_pos (by omega)] at hd3
        exact ⟨⟨n, r ^^^ x, dbl x, y / 2, hxr, hd, hy2, by omega, by rw [hd3, ← xor_i64 _ _ (by omega) (by omega)]; rfl, by simp, by rw [xor_i64 r x (by omega) (by omega)], he⟩, by simp [intOf]; omega⟩
      · have h1 : y % 2 = 1 := by
          have : (bits BinOp.and IntKind.i64 (↑y) 1 == 1) = true := by assumption
          rw [hb1.out, beq_iff_eq] at this; omega
        have he := H.out
        rw [if_pos h1] at he
        have hd3 := hd2.out
        rw [if_neg (by omega)] at hd3
        exact ⟨⟨n, r ^^^ x, dbl x, y / 2, hxr, hd, hy2, by omega, by rw [hd3]; rfl, by simp, by rw [xor_i64 r x (by omega) (by omega)], he⟩, by simp [intOf]; omega⟩
      · have h1 : ¬ y % 2 = 1 := by
          have : (bits BinOp.and IntKind.i64 (↑y) 1 == 1) = false := by assumption
          rw [hb1.out, beq_eq_false_iff_ne] at this; omega
        have he := H.out
        rw [if_neg h1] at he
        have hd3 := hd2.out
        rw [if_pos (by omega)] at hd3
        exact ⟨⟨n, r, dbl x, y / 2, hr, hd, hy2, by omega, by rw [hd3, ← xor_i64 _ _ (by omega) (by omega)]; rfl, by simp, rfl, he⟩, by simp [intOf]; omega⟩
      · have h1 : ¬ y % 2 = 1 := by
          have : (bits BinOp.and IntKind.i64 (↑y) 1 == 1) = false := by assumption
          rw [hb1.out, beq_eq_false_iff_ne] at this; omega
        have he := H.out
        rw [if_neg h1] at he
        have hd3 := hd2.out
        rw [if_neg (by omega)] at hd3
        exact ⟨⟨n, r, dbl x, y / 2, hr, hd, hy2, by omega, by rw [hd3]; rfl, by simp, rfl, he⟩, by simp [intOf]; omega⟩
/-- Powers by multiplying. -/
def gpw (a : Nat) : Nat → Nat
  | 0 => 1
  | k + 1 => gmul (gpw a k) a
theorem gpw_lt (a : Nat) : ∀ k, gpw a k < 256 := by
  intro k
  induction k with
  | zero => exact (by decide : (1 : Nat) < 256)
  | succ k ih => exact gmul_lt ih
theorem gpw_E {a : Nat} (ha : a < 256) (h0 : a ≠ 0) (k : Nat) : gpw a k = E (lg a * k) := by
  induction k with
  | zero => rfl
  | succ k ih =>
    show gmul (gpw a k) a = _
    have := gmul_EE (lg a * k) (lg a)
    rw [E_lg ha h0] at this
    rw [ih, this, Nat.mul_succ]
set_option maxRecDepth 100000 in
set_option maxHeartbeats 400000 in
theorem rinv_any (a : Nat) (ha : a < 256) (w : World) :
    Calls Try.prog 28 #[.int .u8 a] w fun e w' => e = .returned (.int .u8 (gpw a 254)) ∧ w = w' := by
  go_enter Try.func28, Try.ntmps28
  go_wp2
  go_loop [3, 4] (fun r i => ∃ k : Nat, k ≤ 254 ∧ i = .int .i64 k ∧ r = .int .u8 (gpw a k)) (fun _ i => 254 - (intOf i).toNat)
  case atStart => exact ⟨0, by omega, rfl, rfl⟩
  case round =>
    obtain ⟨k, hk, rfl, rfl⟩ := hrel
    have hl := gpw_lt a k
    by_cases hlt : k < 254
    · go_wp2_with (go_at_call 18; refine (rmul_any (gpw a k) a hl ha _).mono ?_; rintro e w' ⟨rfl, rfl⟩)
      exact ⟨⟨k + 1, by omega, by go_num, rfl⟩, by simp [intOf]; omega⟩
    · obtain rfl : k = 254 := by omega
      go_wp2
      go_ret
      exact ⟨rfl, rfl⟩
set_option maxRecDepth 100000 in
set_option maxHeartbeats 400000 in
theorem rdiv_zero (a : Nat) (w : World) :
    Calls Try.prog 16 #[.int .u8 a, .int .u8 0] w fun e w' => e = .returned (.tuple #[.int .u8 0, .int .i64 10]) ∧ w = w' := by
  go_enter Try.func16, Try.ntmps16
  go_wp2
  go_ret2
  exact ⟨rfl, rfl⟩
set_option maxRecDepth 100000 in
set_option maxHeartbeats 400000 in
theorem rdiv_else (a b : Nat) (ha : a < 256) (hb : b < 256) (hb0 : b ≠ 0) (w : World) :
    Calls Try.prog 16 #[.int .u8 a, .int .u8 b] w fun e w' => e = .returned (.tuple #[.int .u8 (gmul a (gpw b 254)), .int .i64 0]) ∧ w = w' := by
  have hl := gpw_lt b 254
  go_enter Try.func16, Try.ntmps16
  go_wp2_with (first | (go_at_call 28; refine (rinv_any b hb _).mono ?_; rintro e w' ⟨rfl, rfl⟩) | (go_at_call 18; refine (rmul_any a (gpw b 254) ha hl _).mono ?_; rintro e w' ⟨rfl, rfl⟩))
  go_ret2
  exact ⟨rfl, rfl⟩
set_option maxRecDepth 100000 in
set_option maxHeartbeats 400000 in
theorem rlog_zero (w : World) :
    Calls Try.prog 17 #[.int .u8 0] w fun e w' => e = .returned (.tuple #[.int .i64 0, .int .i64 10]) ∧ w = w' := by
  go_enter Try.func17, Try.ntmps17
  go_wp2
  go_ret2
  exact ⟨rfl, rfl⟩
theorem gmul2 (k : Nat) : gmul (E k) 2 = E (k + 1) := gmul_EE k 1
set_option maxRecDepth 100000 in
set_option maxHeartbeats 400000 in
theorem rlog_else (a : Nat) (ha : a < 256) (ha0 : a ≠ 0) (w : World) :
    Calls Try.prog 17 #[.int .u8 a] w fun e w' => e = .returned (.tuple #[.int .i64 (lg a), .int .i64 0]) ∧ w = w' := by
  have hla := lg_lt a
  have hE := Lib.hid (E_lg ha ha0)
  have ha1 : ((a : Int) == 0) = false := by simpa using ha0
  go_enter Try.func17, Try.ntmps17
  go_wp2
  go_loop [4, 5] (fun x i => ∃ k : Nat, k ≤ lg a ∧ i = .int .i64 k ∧ x = .int .u8 (E k)) (fun _ i => lg a - (intOf i).toNat)
  case atStart => exact ⟨0, by omega, rfl, rfl⟩
  case round =>
    obtain ⟨k, hk, rfl, rfl⟩ := hrel
    have hl := E_lt k
    by_cases hlt : k < lg a
    · have hne : ¬ ((E k : Nat) : Int) = (a : Nat) := by
        intro h
        have h2 : E k = a := by omega
        have := lg_E (n := k) (by omega)
        rw [h2] at this
        omega
      have hne2 : (((E k : Nat) : Int) == (a : Nat)) = false := by simpa using hne
      have g := Lib.hid (gmul2 k)
      go_wp2_with (go_at_call 18; refine (rmul_any (E k) 2 hl (by omega) _).mono ?_; rintro e w' ⟨rfl, rfl⟩)
      exact ⟨⟨k + 1, by omega, by go_num, by rw [g.out]⟩, by simp [intOf]; omega⟩
    · obtain rfl : k = lg a := by omega
      have heq : (((E (lg a) : Nat) : Int) == (a : Nat)) = true := by rw [hE.out]; simp
      go_wp2
      go_ret2
      exact ⟨rfl, rfl⟩
set_option maxRecDepth 100000 in
set_option maxHeartbeats 400000 in
theorem rpow_zero (a : Nat) (w : World) :
    Calls Try.prog 19 #[.int .u8 a, .int .i64 0] w fun e w' => e = .returned (.int .u8 1) ∧ w = w' := by
  go_enter Try.func19, Try.ntmps19
  go_wp2
  go_ret
  exact ⟨rfl, rfl⟩
set_option maxRecDepth 100000 in
set_option maxHeartbeats 400000 in
theorem rpow_nought (n : Int) (hn : n ≠ 0) (w : World) :
    Calls Try.prog 19 #[.int .u8 0, .int .i64 n] w fun e w' => e = .returned (.int .u8 0) ∧ w = w' := by
  go_enter Try.func19, Try.ntmps19
  go_wp2
  go_ret
  exact ⟨rfl, rfl⟩
set_option maxRecDepth 100000 in
set_option maxHeartbeats 400000 in
theorem rpow_else (a : Nat) (n : Int) (ha : a < 256) (ha0 : a ≠ 0) (hn : n ≠ 0) (w : World) :
    Calls Try.prog 19 #[.int .u8 a, .int .i64 n] w fun e w' => e = .returned (.int .u8 (gpw a (n % 255).toNat)) ∧ w = w' := by
  obtain ⟨b1, b2⟩ := tmod_bd n
  have ht := Lib.hid (tmod_emod n)
  have hn1 : (n == 0) = false := by simpa using hn
  have ha1 : ((a : Int) == 0) = false := by simpa using ha0
  obtain ⟨m, hm⟩ : ∃ m, n.tmod 255 = m := ⟨_, rfl⟩
  rw [hm] at b1 b2
  have hm2 := ht.out
  rw [hm] at hm2
  have hm3 := Lib.hid hm2
  clear hm2 ht
  have main : ∀ j : Nat, (j : Int) = n % 255 → j < 255 → True := fun _ _ _ => trivial
  clear main
  by_cases hs : m < 0
  all_goals
    go_enter Try.func19, Try.ntmps19
    go_wp2
  · obtain ⟨j, hj⟩ : ∃ j : Nat, (j : Int) = m + 255 := ⟨(m + 255).toNat, by omega⟩
    have hj2 : j = (n % 255).toNat := by have := hm3.out; omega
    have hj3 := Lib.hid hj2
    clear hj2
    go_loop [5, 6] (fun r i => ∃ k : Nat, k ≤ j ∧ i = .int .i64 k ∧ r = .int .u8 (gpw a k)) (fun _ i => j - (intOf i).toNat)
    case atStart => exact ⟨0, by omega, rfl, rfl⟩
    case round =>
      obtain ⟨k, hk, rfl, rfl⟩ := hrel
      have hl := gpw_lt a k
      by_cases hlt : k < j
      · go_wp2_with (go_at_call 18; refine (rmul_any (gpw a k) a hl ha _).mono ?_; rintro e w' ⟨rfl, rfl⟩)
        exact ⟨⟨k + 1, by omega, by go_num, rfl⟩, by simp [intOf]; omega⟩
      · obtain rfl : k = j := by omega
        go_wp2
        go_ret
        exact ⟨by rw [← hj3.out]; rfl, rfl⟩
  · obtain ⟨j, hj⟩ : ∃ j : Nat, (j : Int) = m := ⟨(m).toNat, by omega⟩
    have hj2 : j = (n % 255).toNat := by have := hm3.out; omega
    have hj3 := Lib.hid hj2
    clear hj2
    go_loop [5, 6] (fun r i => ∃ k : Nat, k ≤ j ∧ i = .int .i64 k ∧ r = .int .u8 (gpw a k)) (fun _ i => j - (intOf i).toNat)
    case atStart => exact ⟨0, by omega, rfl, rfl⟩
    case round =>
      obtain ⟨k, hk, rfl, rfl⟩ := hrel
      have hl := gpw_lt a k
      by_cases hlt : k < j
      · go_wp2_with (go_at_call 18; refine (rmul_any (gpw a k) a hl ha _).mono ?_; rintro e w' ⟨rfl, rfl⟩)
        exact ⟨⟨k + 1, by omega, by go_num, rfl⟩, by simp [intOf]; omega⟩
      · obtain rfl : k = j := by omega
        go_wp2
        go_ret
        exact ⟨by rw [← hj3.out]; rfl, rfl⟩
theorem rpow_any (a : Nat) (n : Int) (ha : a < 256) (w : World) :
    Calls Try.prog 19 #[.int .u8 a, .int .i64 n] w fun e w' => e = .returned (.int .u8 (gpow a n)) ∧ w = w' := by
  by_cases hn : n = 0
  · subst hn; exact rpow_zero a w
  · by_cases ha0 : a = 0
    · subst ha0
      have : gpow 0 n = 0 := by unfold gpow; rw [if_neg hn, if_pos rfl]
      rw [this]; exact rpow_nought n hn w
    · have : gpow a n = gpw a (n % 255).toNat := by unfold gpow; rw [if_neg hn, if_neg ha0, gpw_E ha ha0]
      rw [this]; exact rpow_else a n ha ha0 hn w
theorem pow_any (a : Nat) (n : Int) (ha : a < 256) (w : World) :
    Calls Try.prog 15 #[.int .u8 a, .int .i64 n] w fun e w' => e = .returned (.int .u8 (gpow a n)) ∧ Below w.heap.size w w' := by
  by_cases hn : n = 0
  · subst hn; exact (pow_zero a w).mono fun e w' ⟨h1, h2⟩ => ⟨h1, h2 ▸ Below.refl _ _⟩
  · by_cases ha0 : a = 0
    · subst ha0
      have : gpow 0 n = 0 := by unfold gpow; rw [if_neg hn, if_pos rfl]
      rw [this]; exact (pow_nought n hn w).mono fun e w' ⟨h1, h2⟩ => ⟨h1, h2 ▸ Below.refl _ _⟩
    · have : gpow a n = E (lg a * (n % 255).toNat) := by unfold gpow; rw [if_neg hn, if_neg ha0]
      rw [this]; exact pow_else a n ha ha0 hn w
theorem gpow_two (n : Int) : gpow 2 n = E (n % 255).toNat := by
  unfold gpow
  split
  · rename_i h; subst h; rfl
  · rw [if_neg (by decide), show lg 2 = 1 from by decide +kernel, Nat.one_mul]
set_option maxRecDepth 100000 in
set_option maxHeartbeats 400000 in
theorem rexp_any (n : Int) (w : World) :
    Calls Try.prog 20 #[.int .i64 n] w fun e w' => e = .returned (.int .u8 (E (n % 255).toNat)) ∧ w = w' := by
  have h2 := Lib.hid (gpow_two n)
  go_enter Try.func20, Try.ntmps20
  go_wp2_with (go_at_call 19; refine (rpow_any 2 n (by omega) _).mono ?_; rintro e w' ⟨rfl, rfl⟩)
  go_ret
  exact ⟨by rw [← h2.out]; rfl, rfl⟩
end Go.Proofs.Ytabdjiibbbgodaa
