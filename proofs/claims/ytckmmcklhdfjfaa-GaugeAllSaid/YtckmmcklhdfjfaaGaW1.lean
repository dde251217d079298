/-
  The walks of the small functions on floats.
-/
import Derived.Test.YtckmmcklhdfjfaaGaMath
namespace Go.Proofs.Ytckmmcklhdfjfaa
open Go.RowKit
set_option linter.unusedVariables false
@[go_sem] theorem call_bits (x : Nat) (w : World) : (callFunc 24 #[.float .f64 x]).run Try.prog w = .ok (.value (.int .u64 x)) w := by
  rw [run_callFunc_extern Try.func24 (by kernel_rfl) (by kernel_rfl) (by kernel_rfl) (e := Extern.MathFloatBits.float64bits) (by kernel_rfl)]; rfl
@[go_sem] theorem call_frombits (x : Int) (w : World) : (callFunc 36 #[.int .u64 x]).run Try.prog w = .ok (.value (.float .f64 x.toNat)) w := by
  rw [run_callFunc_extern Try.func36 (by kernel_rfl) (by kernel_rfl) (by kernel_rfl) (e := Extern.MathFloatBits.float64frombits) (by kernel_rfl)]; rfl
theorem isnan_any (x : Nat) (w : World) : Calls Try.prog 16 #[.float .f64 x] w fun e w' => e = .returned (.bool (nanb x)) ∧ w' = w := by
  go_enter Try.func16, Try.ntmps16
  go_wp2
  go_ret
  exact ⟨rfl, rfl⟩
theorem ratio_any (x y : Nat) (w : World) : Calls Try.prog 12 #[.float .f64 x, .float .f64 y] w (RetF (ratio (cls x) (cls y)) w) := by
  obtain ⟨r, d, hr, hc, hl⟩ := run_float_any (P := Try.prog) .quo (by simp) 23 x y w
  have HC := Lib.hid hc
  clear hc
  go_enter Try.func12, Try.ntmps12
  go_wp2
  go_ret
  exact ⟨r, d, rfl, HC.out, hl, rfl⟩
theorem rratio_any (x y : Nat) (w : World) : Calls Try.prog 13 #[.float .f64 x, .float .f64 y] w (RetF (ratio (cls x) (cls y)) w) := by
  obtain ⟨r, d, hr, hc, hl⟩ := run_float_any (P := Try.prog) .quo (by simp) 23 x y w
  have HC := Lib.hid hc
  clear hc
  go_enter Try.func13, Try.ntmps13
  go_wp2
  go_ret
  exact ⟨r, d, rfl, HC.out, hl, rfl⟩
/-- Whether the sign bit is set. -/
def sgn (x : Nat) : Bool := decide (9223372036854775808 ≤ x)
theorem signbit_any (x : Nat) (w : World) (hx : x < 2 ^ 64) : Calls Try.prog 30 #[.float .f64 x] w fun e w' => e = .returned (.bool (sgn x)) ∧ w' = w := by
  have hd : decide (wrap64 (x : Int) < 0) = sgn x := by
    unfold sgn wrap64
    apply decide_eq_decide.2
    omega
  have HD := Lib.hid hd
  clear hd
  go_enter Try.func30, Try.ntmps30
  go_wp2
  go_ret
  exact ⟨congrArg (fun b => Ending.returned (.bool b)) HD.out, rfl⟩
theorem same_any (x y : Nat) (w : World) (h : cls x = cls y) : Calls Try.prog 7 #[.float .f64 x, .float .f64 y] w fun e w' => e = .returned (.bool true) ∧ w' = w := by
  rcases cls_eq h with rfl | ⟨h1, h2⟩
  · clear h
    go_enter Try.func7, Try.ntmps7
    go_wp2
    go_ret
    exact ⟨rfl, rfl⟩
  · clear h
    by_cases hxy : x = y
    · subst hxy
      go_enter Try.func7, Try.ntmps7
      go_wp2
      go_ret
      exact ⟨rfl, rfl⟩
    · have hne : ¬ ((x : Int) = (y : Int)) := by omega
      have hb : ((x : Int) == (y : Int)) = false := by rw [beq_eq_false_iff_ne]; exact hne
      have A1 := isnan_any x
      have A2 := isnan_any y
      rw [h1] at A1
      rw [h2] at A2
      clear h1 h2
      go_enter Try.func7, Try.ntmps7
      go_wp2_with (go_at_call 16; refine ((by first | exact A1 _ | exact A2 _) : Calls _ _ _ _ _).mono ?_; rintro e w' ⟨rfl, rfl⟩)
      go_ret
      exact ⟨rfl, rfl⟩
theorem nan_any (w : World) : Calls Try.prog 26 #[] w fun e w' => e = .returned (.float .f64 9221120237041090561) ∧ w' = w := by
  go_enter Try.func26, Try.ntmps26
  go_wp2
  go_ret
  exact ⟨rfl, rfl⟩
theorem inf_one (w : World) : Calls Try.prog 28 #[.int .i64 1] w fun e w' => e = .returned (.float .f64 9218868437227405312) ∧ w' = w := by
  go_enter Try.func28, Try.ntmps28
  go_wp2
  go_ret
  exact ⟨rfl, rfl⟩
theorem copysign_zero (w : World) : Calls Try.prog 25 #[.float .f64 0, .float .f64 13830554455654793216] w fun e w' => e = .returned (.float .f64 9223372036854775808) ∧ w' = w := by
  go_enter Try.func25, Try.ntmps25
  go_wp2
  go_ret
  exact ⟨rfl, rfl⟩
theorem isinf_inf (w : World) : Calls Try.prog 29 #[.float .f64 9218868437227405312, .int .i64 1] w fun e w' => e = .returned (.bool true) ∧ w' = w := by
  have hx : (FloatKind.f64.format.order 9218868437227405312 9218868437227405311 == some .gt) = true := by decide
  go_enter Try.func29, Try.ntmps29
  go_wp2
  go_ret
  exact ⟨rfl, rfl⟩
end Go.Proofs.Ytckmmcklhdfjfaa
