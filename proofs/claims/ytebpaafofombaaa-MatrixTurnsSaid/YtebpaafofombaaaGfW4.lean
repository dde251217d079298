/-
  The walks of the reference: Mul, Inverse, Div, Log, Pow, Exp.
-/
import Derived.Test.YtebpaafofombaaaGfW3
namespace Go.Proofs.Ytebpaafofombaaa
open Go.RowKit GfMath
theorem dbl_ck2 : allB 256 (fun a => Nat.beq (dbl a) (if 256 ≤ a * 2 then (a * 2) ^^^ 285 else a * 2)) = true := by decide +kernel
theorem dbl_285 {x : Nat} (h : x < 256) : dbl x = if 256 ≤ x * 2 then (x * 2) ^^^ 285 else x * 2 := Nat.eq_of_beq_eq_true (of_allB dbl_ck2 x h)
set_option maxRecDepth 100000 in
set_option maxHeartbeats 400000 in
theorem rmul_any (a b : Nat) (ha : a < 256) (hb : b < 256) (w : World) :
    Calls Try.prog 41 #[.int .u8 a, .int .u8 b] w fun e w' => e = .returned (.int .u8 (gmul a b)) ∧ w = w' := by
  go_enter Try.func41, Try.ntmps41
  go_wp2
  go_loop [5, 6, 7] (fun va vb vr => ∃ n r x y : Nat, r < 256 ∧ x < 256 ∧ y < 2 ^ n ∧ n ≤ 8 ∧ va = .int .i64 x ∧ vb = .int .i64 y ∧ vr = .int .i64 r ∧ mulF n r x y = gmul a b) (fun _ v _ => (intOf v).toNat)
  case atStart => exact ⟨8, 0, a, b, by omega, by omega, by omega, by omega, rfl, rfl, rfl, rfl⟩
  case round =>
    obtain ⟨n, r, x, y, hr, hx, hy, hn, rfl, rfl, rfl, he⟩ := hrel
    by_cases h0 : y = 0
    · subst h0
      rw [mulF_zero] at he
      subst he
      go_wp2
      go_ret
      exact ⟨by simp, rfl⟩
    · obtain ⟨n, rfl⟩ : ∃ m, n = m + 1 := by
        cases n with
        | zero => simp at hy; omega
        | succ m => exact ⟨m, rfl⟩
      rw [mulF_step] at he
      have hy1 : y < 256 := Nat.lt_of_lt_of_le hy (Nat.pow_le_pow_right (by omega) hn)
      have hy2 : y / 2 < 2 ^ n := by rw [Nat.pow_succ] at hy; omega
      have hxr := xor_lt hr hx
      have hd := dbl_lt hx
      have H := Lib.hid he
      clear he
      have hb1 := Lib.hid (and1_i64 y (by omega))
      have hd2 := Lib.hid (dbl_285 hx)
      go_wp2
      · have h1 : y % 2 = 1 := by
          have : (bits BinOp.and IntKind.i64 (↑y) 1 == 1) = true := by assumption
          rw [hb1.out, beq_iff_eq] at this; omega
        have he := H.out
        rw [if_pos h1] at he
        have hd3 := hd2.out
        rw [if_pos (by omega)] at hd3
        exact ⟨⟨n, r ^^^ x, dbl x, y / 2, hxr, hd, hy2, by omega, by rw [hd3, ← xor_i64 _ _ (by omega) (by omega)]; rfl, by simp, by rw [xor_i64 r x (by omega) (by omega)], he⟩, by simp [intOf]; omega⟩
      · have h1 : y % 2 = 1 := by
          have : (bits BinOp.and IntKind.i64 (↑y) 1 == 1) = true := by assumption
          rw [hb1.out, beq_iff_eq] at this; omega
        have he := H.out
        rw [if_pos h1] at he
        have hd3 := hd2.out
        rw [if_neg (by omega)] at hd3
        exact ⟨⟨n, r ^^^ x, dbl x, y / 2, hxr, hd, hy2, by omega, by rw [hd3]; rfl, by simp, by rw [xor_i64 r x (by omega) (by omega)], he⟩, by simp [intOf]; omega⟩
      · have h1 : ¬ y % 2 = 1 := by
          have : (bits BinOp.and IntKind.i64 (↑y) 1 == 1) = false := by assumption
          rw [hb1.out, beq_eq_false_iff_ne] at this; omega
        have he := H.out
        rw [if_neg h1] at he
        have hd3 := hd2.out
        rw [if_pos (by omega)] at hd3
        exact ⟨⟨n, r, dbl x, y / 2, hr, hd, hy2, by omega, by rw [hd3, ← xor_i64 _ _ (by omega) (by omega)]; rfl, by simp, rfl, he⟩, by simp [intOf]; omega⟩
      · have h1 : ¬ y % 2 = 1 := by
          have : (bits BinOp.and IntKind.i64 (↑y) 1 == 1) = false := by assumption
          rw [hb1.out, beq_eq_false_iff_ne] at this; omega
        have he := H.out
        rw [if_neg h1] at he
        have hd3 := hd2.out
        rw [if_neg (by omega)] at hd3
        exact ⟨⟨n, r, dbl x, y / 2, hr, hd, hy2, by omega, by rw [hd3]; rfl, by simp, rfl, he⟩, by simp [intOf]; omega⟩
/-- Powers by multiplying. -/
def gpw (a : Nat) : Nat → Nat
  | 0 => 1
  | k + 1 => gmul (gpw a k) a
theorem gpw_lt (a : Nat) : ∀ k, gpw a k < 256 := by
  intro k
  induction k with
  | zero => exact (by decide : (1 : Nat) < 256)
  | succ k ih => exact gmul_lt ih
theorem gpw_E {a : Nat} (ha : a < 256) (h0 : a ≠ 0) (k : Nat) : gpw a k = E (lg a * k) := by
  induction k with
  | zero => rfl
  | succ k ih =>
    show gmul (gpw a k) a = _
    have := gmul_EE (lg a * k) (lg a)
    rw [E_lg ha h0] at this
    rw [ih, this, Nat.mul_succ]
set_option maxRecDepth 100000 in
set_option maxHeartbeats 400000 in
theorem rinv_any (a : Nat) (ha : a < 256) (w : World) :
    Calls Try.prog 39 #[.int .u8 a] w fun e w' => e = .returned (.int .u8 (gpw a 254)) ∧ w = w' := by
  go_enter Try.func39, Try.ntmps39
  go_wp2
  go_loop [3, 4] (fun r i => ∃ k : Nat, k ≤ 254 ∧ i = .int .i64 k ∧ r = .int .u8 (gpw a k)) (fun _ i => 254 - (intOf i).toNat)
  case atStart => exact ⟨0, by omega, rfl, rfl⟩
  case round =>
    obtain ⟨k, hk, rfl, rfl⟩ := hrel
    have hl := gpw_lt a k
    by_cases hlt : k < 254
    · go_wp2_with (go_at_call 41; refine (rmul_any (gpw a k) a hl ha _).mono ?_; rintro e w' ⟨rfl, rfl⟩)
      exact ⟨⟨k + 1, by omega, by go_num, rfl⟩, by simp [intOf]; omega⟩
    · obtain rfl : k = 254 := by omega
      go_wp2
      go_ret
      exact ⟨rfl, rfl⟩
theorem gmul2 (k : Nat) : gmul (E k) 2 = E (k + 1) := gmul_EE k 1
theorem gpow_two (n : Int) : gpow 2 n = E (n % 255).toNat := by
  unfold gpow
  split
  · rename_i h; subst h; rfl
  · rw [if_neg (by decide), show lg 2 = 1 from by decide +kernel, Nat.one_mul]
end Go.Proofs.Ytebpaafofombaaa
