/-
  The reference's Rows and Greatest.
-/
import Derived.Test.YtckmmcklhdfjfaaGaL1
namespace Go.Proofs.Ytckmmcklhdfjfaa
open Go.RowKit
set_option linter.unusedVariables false
theorem cls_at {l r : List Nat} (h : l.map cls = r.map cls) (k : Nat) : cls (l.getD k 0) = cls (r.getD k 0) := by
  have := congrArg (fun x => x[k]?) h
  simp only [List.getElem?_map] at this
  rw [List.getD_eq_getElem?_getD, List.getD_eq_getElem?_getD]
  cases h1 : l[k]? <;> cases h2 : r[k]? <;> rw [h1, h2] at this <;> simp_all
set_option maxRecDepth 100000 in
set_option maxHeartbeats 2000000 in
theorem rows_any (A B : Option Addr) (n ca cb : Nat) (l r : List Nat) (w : World) (R1 : Hid (Reads w w.heap.size 1 A n (l.map fv))) (R2 : Hid (Reads w w.heap.size 1 B n (r.map fv))) (hE : Hid (l.map cls = r.map cls)) (hn : n ≤ 9223372036854775807) :
    Calls Try.prog 17 #[.slice A n ca, .slice B n cb] w fun e w' => e = .returned (.bool true) ∧ Below w.heap.size w w' := by
  go_enter Try.func17, Try.ntmps17
  go_wp2
  go_loopw [5] (fun vi wr => ∃ k d : Nat, k ≤ n ∧ vi = .int .i64 k ∧ wr = w.drewN d) (fun vi _ => n - (intOf vi).toNat)
  case atStart => exact ⟨0, 0, by omega, rfl, rfl⟩
  case round =>
    obtain ⟨k, d, hk, rfl, rfl⟩ := hrel
    by_cases hlt : k < n
    · have d1 : decide (k < n) = true := decide_eq_true hlt
      obtain ⟨a1, rfl, hb1, hc1⟩ := R1.out.flt hlt
      obtain ⟨a2, rfl, hb2, hc2⟩ := R2.out.flt hlt
      have hS := cls_at hE.out k
      obtain ⟨x, ex⟩ : ∃ x, l.getD k 0 = x := ⟨_, rfl⟩
      obtain ⟨y, ey⟩ : ∃ y, r.getD k 0 = y := ⟨_, rfl⟩
      rw [ex, ey] at hS
      rw [ex] at hc1
      rw [ey] at hc2
      clear ex ey
      have HS := Lib.hid hS
      clear hS
      go_wp2
      go_region_held3 (fun w' => w'.cell? (a1.add k) = some (.float .f64 x) ∧ w'.cell? (a2.add k) = some (.float .f64 y)) (first | exact ⟨hc1, hc2⟩ | fail) (first
        | (go_at_call 7; refine (same_any x y _ HS.out).mono ?_; rintro e w3 ⟨rfl, rfl⟩))
      go_wp2
      exact ⟨⟨k + 1, _, by omega, by go_num, by first | rfl | exact World.drewN_drewN ..⟩, by simp [intOf]; omega⟩
    · have d1 : decide (k < n) = false := decide_eq_false hlt
      go_wp2
      go_ret
      exact ⟨rfl, bel_drewN (Below.refl _ _) _⟩
end Go.Proofs.Ytckmmcklhdfjfaa
