/-
  The walks of double and Mul: they return dbl and gmul of bytes; the world stays.
-/
import Derived.Test.YtebpaafofombaaaLib
import Derived.Test.YtebpaafofombaaaGfMath
namespace Go.Proofs.Ytebpaafofombaaa
open Go.RowKit GfMath
theorem xor8 (a b : Nat) (ha : a < 256) (hb : b < 256) : bits .xor .u8 (a : Int) (b : Int) = ((a ^^^ b : Nat) : Int) := u8_xor_nat a b ha hb
set_option maxRecDepth 10000 in
set_option maxHeartbeats 400000 in
theorem double_any (a : Nat) (ha : a < 256) (w : World) :
    Calls Try.prog 46 #[.int .u8 a] w fun e w' => e = .returned (.int .u8 (dbl a)) ∧ w' = w := by
  go_enter Try.func46, Try.ntmps46
  go_wp2
  all_goals go_ret
  · refine ⟨ret_int ?_, rfl⟩
    have hx := xor8 (a * 2 % 256) 29 (by omega) (by omega)
    rw [dbl, if_pos (by omega)]
    simpa using hx
  · refine ⟨ret_int ?_, rfl⟩
    rw [dbl, if_neg (by omega)]
    simp
theorem and1 (y : Nat) (h : y < 256) : bits BinOp.and IntKind.u8 (↑y) 1 = ((y % 2 : Nat) : Int) := by
  have := u8_and_nat y 1 h (by omega)
  rw [Nat.and_one_is_mod] at this
  exact this
theorem mulF_step (n r a b : Nat) : mulF (n + 1) r a b = mulF n (if b % 2 = 1 then r ^^^ a else r) (dbl a) (b / 2) := rfl
set_option maxRecDepth 10000 in
set_option maxHeartbeats 400000 in
theorem mul_any (a b : Nat) (ha : a < 256) (hb : b < 256) (w : World) :
    Calls Try.prog 40 #[.int .u8 a, .int .u8 b] w fun e w' => e = .returned (.int .u8 (gmul a b)) ∧ w' = w := by
  go_enter Try.func40, Try.ntmps40
  go_wp2
  go_loop [0, 1, 5] (fun va vb vr => ∃ n r x y : Nat, r < 256 ∧ x < 256 ∧ y < 2 ^ n ∧ n ≤ 8 ∧ va = .int .u8 x ∧ vb = .int .u8 y ∧ vr = .int .u8 r ∧ mulF n r x y = gmul a b) (fun _ v _ => (intOf v).toNat)
  case atStart => exact ⟨8, 0, a, b, by omega, by omega, by omega, by omega, rfl, rfl, rfl, rfl⟩
  case round =>
    obtain ⟨n, r, x, y, hr, hx, hy, hn, rfl, rfl, rfl, he⟩ := hrel
    by_cases h0 : y = 0
    · subst h0
      rw [mulF_zero] at he
      subst he
      go_wp2
      go_ret
      exact ⟨rfl, rfl⟩
    · obtain ⟨n, rfl⟩ : ∃ m, n = m + 1 := by
        cases n with
        | zero => simp at hy; omega
        | succ m => exact ⟨m, rfl⟩
      rw [mulF_step] at he
      have hy1 : y < 256 := Nat.lt_of_lt_of_le hy (Nat.pow_le_pow_right (by omega) hn)
      have hy2 : y / 2 < 2 ^ n := by rw [Nat.pow_succ] at hy; omega
      have hxr := xor_lt hr hx
      have hd := dbl_lt hx
      have H := Lib.hid he
      clear he
      go_wp2_with (go_at_call 46; refine (double_any x hx _).mono ?_; rintro e w' ⟨rfl, rfl⟩)
      · have hb1 := and1 y hy1
        have h1 : y % 2 = 1 := by
          have : 0 < bits BinOp.and IntKind.u8 (↑y) 1 := by assumption
          omega
        have he := H.out
        rw [if_pos h1] at he
        exact ⟨⟨n, r ^^^ x, dbl x, y / 2, hxr, hd, hy2, by omega, rfl, by simp, by rw [xor8 r x hr hx], he⟩, by simp [intOf]; omega⟩
      · have hb1 := and1 y hy1
        have h1 : ¬ y % 2 = 1 := by
          have : bits BinOp.and IntKind.u8 (↑y) 1 ≤ 0 := by assumption
          omega
        have he := H.out
        rw [if_neg h1] at he
        exact ⟨⟨n, r, dbl x, y / 2, hr, hd, hy2, by omega, rfl, by simp, rfl, he⟩, by simp [intOf]; omega⟩
end Go.Proofs.Ytebpaafofombaaa
