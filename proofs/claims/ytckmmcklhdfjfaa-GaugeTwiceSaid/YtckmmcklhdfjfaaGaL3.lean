/-
  The reference's ahead; the greatest's class.
-/
import Derived.Test.YtckmmcklhdfjfaaGaL2
namespace Go.Proofs.Ytckmmcklhdfjfaa
open Go.RowKit
set_option linter.unusedVariables false
theorem cls_cases {x y : Nat} (h : cls x = cls y) : nanb x = nanb y ∧ (nanb x = false → x = y) := by
  rcases cls_eq h with rfl | ⟨h1, h2⟩
  · exact ⟨rfl, fun _ => rfl⟩
  · exact ⟨by rw [h1, h2], fun h => by rw [h1] at h; cases h⟩
theorem gTo_num (l : List Nat) : ∀ k i, gTo l k = some i → nanb (l.getD i 0) = false
  | 0, i, h => by cases h
  | k + 1, i, h => by
    rw [gTo_succ] at h
    cases hn : nanb (l.getD k 0) with
    | true => rw [if_pos hn] at h; exact gTo_num l k i h
    | false =>
      rw [if_neg (by rw [hn]; decide)] at h
      cases hg : gTo l k with
      | none => rw [hg] at h; cases h; exact hn
      | some j =>
        rw [hg] at h
        simp only at h
        split at h
        · cases h; exact hn
        · cases h; exact gTo_num l k i hg
theorem gTo_cls {l r : List Nat} (h : l.map cls = r.map cls) : ∀ k, gTo l k = gTo r k
  | 0 => rfl
  | k + 1 => by
    have hk := cls_cases (cls_at h k)
    have ih := gTo_cls h k
    rw [gTo_succ, gTo_succ, ← ih, ← hk.1]
    cases hn : nanb (l.getD k 0) with
    | true => rfl
    | false =>
      rw [← hk.2 hn]
      cases hg : gTo l k with
      | none => rfl
      | some i => 
        have hi := (cls_cases (cls_at h i)).2 (gTo_num l k i hg)
        simp only
        rw [hi]
theorem atV_cls {l r : List Nat} (h : l.map cls = r.map cls) (k : Nat) : cls (atV l (gTo l k)) = cls (atV r (gTo r k)) := by
  rw [← gTo_cls h k]
  cases gTo l k with
  | none => rfl
  | some i => exact cls_at h i
set_option maxRecDepth 100000 in
set_option maxHeartbeats 2000000 in
theorem ahead_any (x y : Nat) (w : World) (hx : x < 2 ^ 64) (hy : y < 2 ^ 64) (nx : nanb x = false) (ny : nanb y = false) :
    Calls Try.prog 44 #[.float .f64 x, .float .f64 y] w fun e w' => e = .returned (.bool (ahd x y)) ∧ w' = w := by
  have N1 := isnan_any x
  have N2 := isnan_any y
  have S1 := Lib.hid (signbit_any x · hx)
  have S2 := Lib.hid (signbit_any y · hy)
  have e0 : ahd x y = if (ford x 0 == some .eq && ford y 0 == some .eq) = true then sgn x && !sgn y else ford x y == some .lt := by unfold ahd; rw [nx, ny]; rfl
  rw [e0]
  rw [nx] at N1
  rw [ny] at N2
  clear e0 nx ny
  unfold ford
  cases h1 : (FloatKind.f64.format.order x 0 == some .eq) <;> cases h2 : (FloatKind.f64.format.order y 0 == some .eq)
  all_goals
    generalize sgn x = p at *
    generalize sgn y = q at *
    cases p
    all_goals
      go_enter Try.func44, Try.ntmps44
      go_wp2_with (first
        | (go_at_call 16; refine ((by first | exact N1 _ | exact N2 _) : Calls _ _ _ _ _).mono ?_; rintro e w' ⟨rfl, rfl⟩)
        | (go_at_call 30; refine ((by first | exact S1.out _ | exact S2.out _) : Calls _ _ _ _ _).mono ?_; rintro e w' ⟨rfl, rfl⟩))
      go_ret
      exact ⟨rfl, rfl⟩
end Go.Proofs.Ytckmmcklhdfjfaa
