/-
  The law StrawRises: its walk, and the statement.
-/
import Derived.Test.YtgcilbmdgfeojaaStrW6
namespace Go.Proofs.Ytgcilbmdgfeojaa
open Go.RowKit StrMath
set_option linter.unusedVariables false
theorem u64_nat {b : Int} (h : Lit.wf (.int .u64 b)) : ∃ n : Nat, b = n ∧ n < 18446744073709551616 := by
  have : 0 ≤ b ∧ b ≤ 18446744073709551615 := by simpa [Lit.wf, IntKind.min, IntKind.max, IntKind.signed, IntKind.bits] using h
  exact ⟨b.toNat, by omega, by omega⟩
def risesBad (u v x y : Int) : Prop := u < 1 ∨ v < u ∨ 65536 < v ∨ x < 1 ∨ y < x
set_option maxRecDepth 100000 in
theorem rises_out (u v x y : Int) (h : Nat) (W : World) (hb : risesBad u v x y) :
    Calls Try.prog 5 #[.int .i64 u, .int .i64 v, .int .u64 h, .int .i64 x, .int .i64 y] W fun e w' => e = .returned (.bool true) ∧ Below W.heap.size W w' := by
  have aux : (decide (u < 1) = true) ∨ (decide (u < 1) = false ∧ decide (v < u) = true) ∨ (decide (u < 1) = false ∧ decide (v < u) = false ∧ decide (65536 < v) = true) ∨
      (decide (u < 1) = false ∧ decide (v < u) = false ∧ decide (65536 < v) = false ∧ decide (x < 1) = true) ∨
      (decide (u < 1) = false ∧ decide (v < u) = false ∧ decide (65536 < v) = false ∧ decide (x < 1) = false ∧ decide (y < x) = true) := by
    unfold risesBad at hb
    simp only [decide_eq_true_eq, decide_eq_false_iff_not]
    omega
  clear hb
  rcases aux with d1 | ⟨d1, d2⟩ | ⟨d1, d2, d3⟩ | ⟨d1, d2, d3, d4⟩ | ⟨d1, d2, d3, d4, d5⟩
  all_goals
    go_enter Try.func5, Try.ntmps5
    go_wp2_with fail
    refine (heads_any W).mono ?_
    rintro e w' ⟨rfl, hb2⟩
    go_wp2
    go_ret
    exact ⟨rfl, hb2⟩
set_option maxRecDepth 100000 in
theorem rises_in (u v x y : Int) (h : Nat) (W : World) (hh : h < 18446744073709551616) (h1 : 1 ≤ u) (h2 : u ≤ v) (h3 : v ≤ 65536) (h4 : 1 ≤ x) (h5 : x ≤ y) (wx : Lit.wf (.int .i64 x)) (wy : Lit.wf (.int .i64 y)) (huv : u ≤ 32768 ∨ 32768 < u) :
    Calls Try.prog 5 #[.int .i64 u, .int .i64 v, .int .u64 h, .int .i64 x, .int .i64 y] W fun e w' => e = .returned (.bool true) ∧ Below W.heap.size W w' := by
  have wu : Lit.wf (.int .i64 u) := wf_small (by omega) (by omega)
  have wv : Lit.wf (.int .i64 v) := wf_small (by omega) (by omega)
  have w2 : Lit.wf (.int .i64 (2 * u)) := wf_small (by omega) (by omega)
  have m1 := ln_mono h1 h2 h3
  have m2 := ln_le u
  have m3 := ln_le v
  have lu := ln_any u W wu
  have lv := ln_any v W wv
  have l2 := ln_any (2 * u) W w2
  have cx := cost_any h x W hh wx
  have cy := cost_any h y W hh wy
  have c1 := cost_falls h h4 h5
  have c2 := cost_rng h x
  have c3 := cost_rng h y
  have md := fun g => ln_double h1 (show u ≤ 32768 from g)
  generalize ln u = a at *
  generalize ln v = b at *
  generalize cost h x = c at *
  generalize cost h y = d at *
  have LU := Lib.hid lu
  have LV := Lib.hid lv
  have CX := Lib.hid cx
  have CY := Lib.hid cy
  have d1 : decide (u < 1) = false := decide_eq_false (by omega)
  have d2 : decide (v < u) = false := decide_eq_false (by omega)
  have d3 : decide (65536 < v) = false := decide_eq_false (by omega)
  have d4 : decide (x < 1) = false := decide_eq_false (by omega)
  have d5 : decide (y < x) = false := decide_eq_false (by omega)
  have e1 : decide (a ≤ b) = true := decide_eq_true (by omega)
  have e3 : decide ((b : Int) ≤ 268435456) = true := decide_eq_true (by omega)
  have e4 : decide (d ≤ c) = true := decide_eq_true (by omega)
  have e5 : decide (0 ≤ d) = true := decide_eq_true (by omega)
  clear lu lv cx cy wu wv w2 wx wy
  rcases huv with g | g
  · have mm := md g
    rw [mm] at l2
    have L2 := Lib.hid l2
    have g1 : decide (32768 < u) = false := decide_eq_false (by omega)
    clear md l2 mm
    go_enter Try.func5, Try.ntmps5
    go_wp2_with fail
    refine LU.out.mono ?_
    rintro e w' ⟨rfl, rfl⟩
    go_wp2_with fail
    refine LV.out.mono ?_
    rintro e w' ⟨rfl, rfl⟩
    go_wp2_with fail
    refine L2.out.mono ?_
    rintro e w' ⟨rfl, rfl⟩
    go_wp2_with fail
    refine CY.out.mono ?_
    rintro e w' ⟨rfl, rfl⟩
    go_wp2_with fail
    refine CX.out.mono ?_
    rintro e w' ⟨rfl, rfl⟩
    go_wp2_with fail
    refine CY.out.mono ?_
    rintro e w' ⟨rfl, rfl⟩
    go_wp2_with fail
    refine (heads_any W).mono ?_
    rintro e w' ⟨rfl, hb2⟩
    go_wp2
    go_ret
    exact ⟨rfl, hb2⟩
  · have g1 : decide (32768 < u) = true := decide_eq_true (by omega)
    clear md l2
    go_enter Try.func5, Try.ntmps5
    go_wp2_with fail
    refine LU.out.mono ?_
    rintro e w' ⟨rfl, rfl⟩
    go_wp2_with fail
    refine LV.out.mono ?_
    rintro e w' ⟨rfl, rfl⟩
    go_wp2_with fail
    refine CY.out.mono ?_
    rintro e w' ⟨rfl, rfl⟩
    go_wp2_with fail
    refine CX.out.mono ?_
    rintro e w' ⟨rfl, rfl⟩
    go_wp2_with fail
    refine CY.out.mono ?_
    rintro e w' ⟨rfl, rfl⟩
    go_wp2_with fail
    refine (heads_any W).mono ?_
    rintro e w' ⟨rfl, hb2⟩
    go_wp2
    go_ret
    exact ⟨rfl, hb2⟩
theorem walk_StrawRises (W : World) (u : Int) (wu : Lit.wf (.int .i64 u)) (v : Int) (wv : Lit.wf (.int .i64 v)) (h : Int) (wh : Lit.wf (.int .u64 h)) (x : Int) (wx : Lit.wf (.int .i64 x)) (y : Int) (wy : Lit.wf (.int .i64 y)) :
    Calls Try.prog 5 #[.int .i64 u, .int .i64 v, .int .u64 h, .int .i64 x, .int .i64 y] W fun e w' => e = .returned (.bool true) ∧ Below W.heap.size W w' := by
  obtain ⟨n, rfl, hn⟩ := u64_nat wh
  by_cases hb : risesBad u v x y
  · exact rises_out u v x y n W hb
  · unfold risesBad at hb
    exact rises_in u v x y n W hn (by omega) (by omega) (by omega) (by omega) (by omega) wx wy (by omega)
namespace strawRises
open Go.ChangeShapes Go.WideShapes Go.ChangeAt Go.RowKit
open Go.ChangeMaps (open_string shut_string)
set_option linter.unusedVariables false
theorem own : ownKnob Try.prog.godebug = none := by kernel_rfl
theorem laidOut : laidOutB Try.prog = true := by kernel_rfl
set_option maxRecDepth 100000 in
theorem contract (H : Type) (enc : TypeId × Value → H) (W : World) (base : Nat) (args : Array Value) (ds gs : List (DataW H)) (before : List MemPlace)
    (hval0 : ∀ (j : Nat) t v, Try.f5.params[j]? = some t → args[j]? = some v → Value.okWide Try.prog W .any base t v)
    (hW : DataW.Whole enc Try.prog Try.f5.params.toList Rows.strawRisesSpec.vars false W args.toList ds gs before) :
    Calls Try.prog 5 args W fun e W' => ∃ v, e = .returned v ∧ Rows.strawRisesSpec.post enc Try.prog Try.f5 false true false false W args v W' := by
  have hval : ∀ (j : Nat) t v, Try.f5.params[j]? = some t → args[j]? = some v → Value.okWide Try.prog W .any base t v := hval0
  have hW' := hW
  obtain ⟨p, q, hA0, hV, rfl, hfz, hnd⟩ := hW
  have hA : DataW.TrodAll enc Try.prog W 0 (fun _ => true) true Try.f5.params.toList args.toList ds p := hA0
  rw [Try.params5] at hA hval
  obtain ⟨v0, vs0, d0, ds0, p0, q0, hargs, rfl, rfl, h0, r0⟩ := trodAll_cons hA
  obtain ⟨v1, vs1, d1, ds1, p1, q1, rfl, rfl, rfl, h1, r1⟩ := trodAll_cons r0
  obtain ⟨v2, vs2, d2, ds2, p2, q2, rfl, rfl, rfl, h2, r2⟩ := trodAll_cons r1
  obtain ⟨v3, vs3, d3, ds3, p3, q3, rfl, rfl, rfl, h3, r3⟩ := trodAll_cons r2
  obtain ⟨v4, vs4, d4, ds4, p4, q4, rfl, rfl, rfl, h4, r4⟩ := trodAll_cons r3
  obtain ⟨rfl, rfl, rfl⟩ := trodAll_nil r4
  obtain rfl : args = #[v0, v1, v2, v3, v4] := by cases args; simp_all
  obtain ⟨rfl, rfl⟩ := trodVars_none hV
  have k0 := h0
  have lt0 : ∀ x ∈ p0, x.block < W.heap.size := by obtain ⟨m, hm⟩ := k0; exact DataW.trod_lt m _ _ _ hm
  have k1 := h1
  have lt1 : ∀ x ∈ p1, x.block < W.heap.size := by obtain ⟨m, hm⟩ := k1; exact DataW.trod_lt m _ _ _ hm
  have k2 := h2
  have lt2 : ∀ x ∈ p2, x.block < W.heap.size := by obtain ⟨m, hm⟩ := k2; exact DataW.trod_lt m _ _ _ hm
  have k3 := h3
  have lt3 : ∀ x ∈ p3, x.block < W.heap.size := by obtain ⟨m, hm⟩ := k3; exact DataW.trod_lt m _ _ _ hm
  have k4 := h4
  have lt4 : ∀ x ∈ p4, x.block < W.heap.size := by obtain ⟨m, hm⟩ := k4; exact DataW.trod_lt m _ _ _ hm
  obtain ⟨a0, rfl, rfl, rfl, w0⟩ := open_int Try.underlying3 (hval 0 3 v0 rfl rfl) h0
  obtain ⟨a1, rfl, rfl, rfl, w1⟩ := open_int Try.underlying3 (hval 1 3 v1 rfl rfl) h1
  obtain ⟨a2, rfl, rfl, rfl, w2⟩ := open_int Try.underlying22 (hval 2 22 v2 rfl rfl) h2
  obtain ⟨a3, rfl, rfl, rfl, w3⟩ := open_int Try.underlying3 (hval 3 3 v3 rfl rfl) h3
  obtain ⟨a4, rfl, rfl, rfl, w4⟩ := open_int Try.underlying3 (hval 4 3 v4 rfl rfl) h4
  clear hA0 hval0
  refine (walk_StrawRises W a0 w0 a1 w1 a2 w2 a3 w3 a4 w4).mono fun e W' ⟨he, bel⟩ => ?_
  subst he
  exact ⟨_, rfl, _, _, _, [], _, [], hW', trodAll_mk1 (shut_bool Try.underlying4 _), (trodAll_cons_mk (Below.trod laidOut (by kernel_rfl) (of_decide_eq_true (by kernel_rfl)) k0 bel lt0) (trodAll_cons_mk (Below.trod laidOut (by kernel_rfl) (of_decide_eq_true (by kernel_rfl)) k1 bel lt1) (trodAll_cons_mk (Below.trod laidOut (by kernel_rfl) (of_decide_eq_true (by kernel_rfl)) k2 bel lt2) (trodAll_cons_mk (Below.trod laidOut (by kernel_rfl) (of_decide_eq_true (by kernel_rfl)) k3 bel lt3) (trodAll_cons_mk (Below.trod laidOut (by kernel_rfl) (of_decide_eq_true (by kernel_rfl)) k4 bel lt4) trodAll_mk0))))), rfl, bel.frame _, fun h => by cases h⟩
set_option maxRecDepth 100000 in
theorem lifted (os : Os) (started : os.Started) (H : Type) (enc : TypeId × Value → H) :
    ReturnsInHanded {} Try.checked os 5 .any (Rows.strawRisesSpec.pre6 enc Try.prog Try.f5 Rows.strawRisesRow.domain false) (Rows.strawRisesSpec.post enc Try.prog Try.f5 false true false false) := by
  refine returnsInHanded_of_change (C := Try.checked) own started (by kernel_rfl) Try.func5
    (ChangeSpec.witness6 (enc := enc) (C := Try.checked) false ⟨#[], #[.int .i64 0, .int .i64 0, .int .u64 0, .int .i64 0, .int .i64 0], []⟩ 8 (by kernel_rfl) (by kernel_rfl) (by kernel_rfl) (by kernel_rfl)) ?_
  intro W base args ds gs before hval hW _ _
  exact contract H enc W base args ds gs before hval hW
theorem over : Rows.strawRisesRow.holds Try.pinned (OpenSpec.ofChange Rows.strawRisesSpec) :=
  OpenClaim.holds_of_wide 5 Try.f5 rfl rfl rfl rfl rfl rfl rfl ⟨rfl, rfl, rfl, rfl, rfl⟩ rfl rfl rfl rfl rfl (by kernel_rfl) Try.func5 (by kernel_rfl)
    (of_decide_eq_true (by kernel_rfl)) (by unfold Func.isWrapper; first | (rw [if_pos (by decide +kernel)]; kernel_rfl) | (rw [if_neg (by decide +kernel)]; exact ⟨rfl, rfl⟩))
    (fun os started H enc _ => lifted os started H enc)
/-- THE STATEMENT. -/
theorem proved : Rows.StrawRisesSaid := over
end strawRises
end Go.Proofs.Ytgcilbmdgfeojaa
