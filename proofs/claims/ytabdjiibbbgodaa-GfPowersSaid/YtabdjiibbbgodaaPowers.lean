/-
  GfPowers holds for every two bytes and every two exponents (up to a thousand either way; beyond them it asks nothing of powers).
-/
import Derived.Test.YtabdjiibbbgodaaW6
namespace Go.Proofs.Ytabdjiibbbgodaa
open Go.RowKit GfMath
theorem gpow_E {a : Nat} (h : a ≠ 0) (n : Int) : gpow a n = E (lg a * (n % 255).toNat) := by
  unfold gpow
  by_cases hn : n = 0
  · subst hn; rw [if_pos rfl]; rfl
  · rw [if_neg hn, if_neg h]
theorem E_modmul (l x y z : Nat) (h : (x + y) % 255 = z % 255) : E (l * x + l * y) = E (l * z) := by
  rw [← E_mod, ← E_mod (l * z), ← Nat.mul_add, Nat.mul_mod, h, ← Nat.mul_mod]
theorem gpow_add {a : Nat} (h : a ≠ 0) (m n : Int) : gmul (gpow a m) (gpow a n) = gpow a (m + n) := by
  rw [gpow_E h, gpow_E h, gpow_E h, gmul_EE]
  exact E_modmul _ _ _ _ (by omega)
theorem gpow_mul {a b : Nat} (ha : a < 256) (hb : b < 256) (m : Int) : gpow (gmul a b) m = gmul (gpow a m) (gpow b m) := by
  by_cases hm : m = 0
  · subst hm
    show 1 = gmul 1 1
    decide
  · by_cases h1 : a = 0
    · subst h1
      have e : gpow 0 m = 0 := by unfold gpow; rw [if_neg hm, if_pos rfl]
      rw [zero_gmul hb, e, zero_gmul (gpow_lt b m)]
    · by_cases h2 : b = 0
      · subst h2
        have e : gpow 0 m = 0 := by unfold gpow; rw [if_neg hm, if_pos rfl]
        rw [gmul_zero, e, gmul_zero]
      · rw [gpow_E h1, gpow_E h2, gpow_E (gmul_ne ha hb h1 h2), lg_gmul ha hb h1 h2, gmul_EE, ← Nat.add_mul, ← E_mod, ← E_mod ((lg a + lg b) * _), Nat.mul_mod, Nat.mod_mod, ← Nat.mul_mod]
theorem gsq {a b : Nat} (ha : a < 256) (hb : b < 256) : gmul (a ^^^ b) (a ^^^ b) = gmul a a ^^^ gmul b b := by
  have l := xor_lt ha hb
  rw [gmul_xor, gmul_comm l ha, gmul_comm l hb, gmul_xor, gmul_xor, gmul_comm hb ha, ← Nat.xor_assoc, Nat.xor_assoc (gmul a a), Nat.xor_self, Nat.xor_zero]
set_option maxRecDepth 100000 in
set_option maxHeartbeats 2000000 in
theorem powers_in (a b : Nat) (m n : Int) (ha : a < 256) (hb : b < 256) (m1 : -1000 ≤ m) (m2 : m ≤ 1000) (n1 : -1000 ≤ n) (n2 : n ≤ 1000) (q : Bool) (hq : (((gpow a (m + n) : Nat) : Int) == ((gmul (gpow a m) (gpow a n) : Nat) : Int)) = q) (hqa : q = true ∨ (q = false ∧ ((a : Int) == 0) = true)) (W : World) :
    Calls Try.prog 6 #[.int .u8 a, .int .u8 b, .int .i64 m, .int .i64 n] W fun e w' => e = .returned (.bool true) ∧ Below W.heap.size W w' := by
  have p1 := gpow_lt a m
  have p2 := gpow_lt a n
  have p3 := gpow_lt b m
  have l0 : gmul a b < 256 := gmul_lt ha
  have l1 := xor_lt ha hb
  have x1 := xor8 a b ha hb
  have x2 := xor8 (gmul a a) (gmul b b) (gmul_lt ha) (gmul_lt hb)
  have x3 := gsq ha hb
  have x4 := gpow_mul ha hb m
  rcases hqa with rfl | ⟨rfl, a0⟩
  all_goals
    go_enter Try.func6, Try.ntmps6
    go_wp2_with (fail)
    refine (pow_any _ _ ha _).mono ?_
    rintro e wa ⟨rfl, ha1⟩
    go_wp2_with (fail)
    refine (pow_any _ _ ha _).mono ?_
    rintro e wb ⟨rfl, hb1⟩
    go_wp2_with (fail)
    refine (pow_any _ _ ha _).mono ?_
    rintro e wc ⟨rfl, hc1⟩
    go_wp2_with (go_at_call 9; refine (mul_i _ _ (by omega) (by omega) (by omega) (by omega) _).mono ?_; rintro e w' ⟨rfl, rfl⟩)
    refine (pow_any _ _ l0 _).mono ?_
    rintro e wd ⟨rfl, hd1⟩
    go_wp2_with (fail)
    refine (pow_any _ _ ha _).mono ?_
    rintro e we ⟨rfl, he1⟩
    go_wp2_with (fail)
    refine (pow_any _ _ hb _).mono ?_
    rintro e wf ⟨rfl, hf1⟩
    go_wp2_with (first | (go_at_call 9; refine (mul_i _ _ (by omega) (by omega) (by omega) (by omega) _).mono ?_; rintro e w' ⟨rfl, rfl⟩) | (go_at_call 11; refine (heads_any _).mono ?_; rintro e wg ⟨rfl, hg1⟩))
    go_ret
    exact ⟨rfl, bel_trans ha1 (bel_trans hb1 (bel_trans hc1 (bel_trans hd1 (bel_trans he1 (bel_trans hf1 hg1)))))⟩
set_option maxRecDepth 100000 in
set_option maxHeartbeats 2000000 in
theorem powers_out (a b : Nat) (m n : Int) (ha : a < 256) (hb : b < 256) (h : m < -1000 ∨ 1000 < m ∨ n < -1000 ∨ 1000 < n) (W : World) :
    Calls Try.prog 6 #[.int .u8 a, .int .u8 b, .int .i64 m, .int .i64 n] W fun e w' => e = .returned (.bool true) ∧ Below W.heap.size W w' := by
  by_cases h1 : m < -1000
  · go_enter Try.func6, Try.ntmps6
    go_wp2_with (go_at_call 11; refine (heads_any _).mono ?_; rintro e wg ⟨rfl, hg1⟩)
    go_ret
    exact ⟨rfl, hg1⟩
  · have h1' : -1000 ≤ m := by omega
    by_cases h2 : 1000 < m
    · clear h
      go_enter Try.func6, Try.ntmps6
      go_wp2_with (go_at_call 11; refine (heads_any _).mono ?_; rintro e wg ⟨rfl, hg1⟩)
      go_ret
      exact ⟨rfl, hg1⟩
    · have h2' : m ≤ 1000 := by omega
      by_cases h3 : n < -1000
      · clear h
        go_enter Try.func6, Try.ntmps6
        go_wp2_with (go_at_call 11; refine (heads_any _).mono ?_; rintro e wg ⟨rfl, hg1⟩)
        go_ret
        exact ⟨rfl, hg1⟩
      · have h3' : -1000 ≤ n := by omega
        have h4 : 1000 < n := by omega
        clear h
        go_enter Try.func6, Try.ntmps6
        go_wp2_with (go_at_call 11; refine (heads_any _).mono ?_; rintro e wg ⟨rfl, hg1⟩)
        go_ret
        exact ⟨rfl, hg1⟩
theorem walk_GfPowers (W : World) (a0 : Int) (w0 : (Lit.int .u8 a0).wf = true) (a1 : Int) (w1 : (Lit.int .u8 a1).wf = true) (m : Int) (w2 : (Lit.int .i64 m).wf = true) (n : Int) (w3 : (Lit.int .i64 n).wf = true) :
    Calls Try.prog 6 #[.int .u8 a0, .int .u8 a1, .int .i64 m, .int .i64 n] W fun e w' => e = .returned (.bool true) ∧ Below W.heap.size W w' := by
  obtain ⟨a, rfl, ha⟩ := u8_of w0
  obtain ⟨b, rfl, hb⟩ := u8_of w1
  by_cases h : m < -1000 ∨ 1000 < m ∨ n < -1000 ∨ 1000 < n
  · exact powers_out a b m n ha hb h W
  · by_cases ha0 : a = 0
    · rcases hq : (((gpow a (m + n) : Nat) : Int) == ((gmul (gpow a m) (gpow a n) : Nat) : Int)) with _ | _
      · exact powers_in a b m n ha hb (by omega) (by omega) (by omega) (by omega) false hq (.inr ⟨rfl, by simpa using ha0⟩) W
      · exact powers_in a b m n ha hb (by omega) (by omega) (by omega) (by omega) true hq (.inl rfl) W
    · exact powers_in a b m n ha hb (by omega) (by omega) (by omega) (by omega) true (by rw [gpow_add ha0]; simp) (.inl rfl) W
namespace gfPowers
open Go.ChangeShapes Go.WideShapes Go.ChangeAt Go.RowKit
open Go.ChangeMaps (open_string shut_string)
set_option linter.unusedVariables false
theorem own : ownKnob Try.prog.godebug = none := by kernel_rfl
theorem laidOut : laidOutB Try.prog = true := by kernel_rfl
set_option maxRecDepth 100000 in
theorem contract (H : Type) (enc : TypeId × Value → H) (W : World) (base : Nat) (args : Array Value) (ds gs : List (DataW H)) (before : List MemPlace)
    (hval0 : ∀ (j : Nat) t v, Try.f6.params[j]? = some t → args[j]? = some v → Value.okWide Try.prog W .any base t v)
    (hW : DataW.Whole enc Try.prog Try.f6.params.toList Rows.gfPowersSpec.vars false W args.toList ds gs before) :
    Calls Try.prog 6 args W fun e W' => ∃ v, e = .returned v ∧ Rows.gfPowersSpec.post enc Try.prog Try.f6 false true false false W args v W' := by
  have hval : ∀ (j : Nat) t v, Try.f6.params[j]? = some t → args[j]? = some v → Value.okWide Try.prog W .any base t v := hval0
  have hW' := hW
  obtain ⟨p, q, hA0, hV, rfl, hfz, hnd⟩ := hW
  have hA : DataW.TrodAll enc Try.prog W 0 (fun _ => true) true Try.f6.params.toList args.toList ds p := hA0
  rw [Try.params6] at hA hval
  obtain ⟨v0, vs0, d0, ds0, p0, q0, hargs, rfl, rfl, h0, r0⟩ := trodAll_cons hA
  obtain ⟨v1, vs1, d1, ds1, p1, q1, rfl, rfl, rfl, h1, r1⟩ := trodAll_cons r0
  obtain ⟨v2, vs2, d2, ds2, p2, q2, rfl, rfl, rfl, h2, r2⟩ := trodAll_cons r1
  obtain ⟨v3, vs3, d3, ds3, p3, q3, rfl, rfl, rfl, h3, r3⟩ := trodAll_cons r2
  obtain ⟨rfl, rfl, rfl⟩ := trodAll_nil r3
  obtain rfl : args = #[v0, v1, v2, v3] := by cases args; simp_all
  obtain ⟨rfl, rfl⟩ := trodVars_none hV
  have k0 := h0
  have lt0 : ∀ x ∈ p0, x.block < W.heap.size := by obtain ⟨m, hm⟩ := k0; exact DataW.trod_lt m _ _ _ hm
  have k1 := h1
  have lt1 : ∀ x ∈ p1, x.block < W.heap.size := by obtain ⟨m, hm⟩ := k1; exact DataW.trod_lt m _ _ _ hm
  have k2 := h2
  have lt2 : ∀ x ∈ p2, x.block < W.heap.size := by obtain ⟨m, hm⟩ := k2; exact DataW.trod_lt m _ _ _ hm
  have k3 := h3
  have lt3 : ∀ x ∈ p3, x.block < W.heap.size := by obtain ⟨m, hm⟩ := k3; exact DataW.trod_lt m _ _ _ hm
  obtain ⟨a0, rfl, rfl, rfl, w0⟩ := open_int Try.underlying5 (hval 0 5 v0 rfl rfl) h0
  obtain ⟨a1, rfl, rfl, rfl, w1⟩ := open_int Try.underlying5 (hval 1 5 v1 rfl rfl) h1
  obtain ⟨a2, rfl, rfl, rfl, w2⟩ := open_int Try.underlying3 (hval 2 3 v2 rfl rfl) h2
  obtain ⟨a3, rfl, rfl, rfl, w3⟩ := open_int Try.underlying3 (hval 3 3 v3 rfl rfl) h3
  clear hA0 hval0
  refine (walk_GfPowers W a0 w0 a1 w1 a2 w2 a3 w3).mono fun e W' ⟨he, bel⟩ => ?_
  subst he
  exact ⟨_, rfl, _, _, _, [], _, [], hW', trodAll_mk1 (shut_bool Try.underlying4 _), (trodAll_cons_mk (Below.trod laidOut (by kernel_rfl) (of_decide_eq_true (by kernel_rfl)) k0 bel lt0) (trodAll_cons_mk (Below.trod laidOut (by kernel_rfl) (of_decide_eq_true (by kernel_rfl)) k1 bel lt1) (trodAll_cons_mk (Below.trod laidOut (by kernel_rfl) (of_decide_eq_true (by kernel_rfl)) k2 bel lt2) (trodAll_cons_mk (Below.trod laidOut (by kernel_rfl) (of_decide_eq_true (by kernel_rfl)) k3 bel lt3) trodAll_mk0)))), rfl, bel.frame _, fun h => by cases h⟩
set_option maxRecDepth 100000 in
theorem lifted (os : Os) (started : os.Started) (H : Type) (enc : TypeId × Value → H) :
    ReturnsInHanded {} Try.checked os 6 .any (Rows.gfPowersSpec.pre6 enc Try.prog Try.f6 Rows.gfPowersRow.domain false) (Rows.gfPowersSpec.post enc Try.prog Try.f6 false true false false) := by
  refine returnsInHanded_of_change (C := Try.checked) own started (by kernel_rfl) Try.func6
    (ChangeSpec.witness6 (enc := enc) (C := Try.checked) false ⟨#[], #[.int .u8 0, .int .u8 0, .int .i64 0, .int .i64 0], []⟩ 8 (by kernel_rfl) (by kernel_rfl) (by kernel_rfl) (by kernel_rfl)) ?_
  intro W base args ds gs before hval hW _ _
  exact contract H enc W base args ds gs before hval hW
theorem over : Rows.gfPowersRow.holds Try.pinned (OpenSpec.ofChange Rows.gfPowersSpec) :=
  OpenClaim.holds_of_wide 6 Try.f6 rfl rfl rfl rfl rfl rfl rfl ⟨rfl, rfl, rfl, rfl, rfl⟩ rfl rfl rfl rfl rfl (by kernel_rfl) Try.func6 (by kernel_rfl)
    (of_decide_eq_true (by kernel_rfl)) (by unfold Func.isWrapper; first | (rw [if_pos (by decide +kernel)]; kernel_rfl) | (rw [if_neg (by decide +kernel)]; exact ⟨rfl, rfl⟩))
    (fun os started H enc _ => lifted os started H enc)
/-- THE STATEMENT. -/
theorem proved : Rows.GfPowersSaid := over
end gfPowers
end Go.Proofs.Ytabdjiibbbgodaa
