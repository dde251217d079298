/-
  GfLogs holds for every two bytes and every exponent: logarithms make sums of products.
-/
import Derived.Test.YtabdjiibbbgodaaW6
namespace Go.Proofs.Ytabdjiibbbgodaa
open Go.RowKit GfMath
theorem lg_sum {a b : Nat} (ha : a < 256) (hb : b < 256) (h1 : a ≠ 0) (h2 : b ≠ 0) : (((lg a : Nat) : Int) + (lg b : Nat)) % 255 = ((lg (gmul a b) : Nat) : Int) := by
  rw [lg_gmul ha hb h1 h2]; omega
theorem Ez_lg {a : Nat} (ha : a < 256) (h : a ≠ 0) : Ez (lg a : Nat) = a := by
  have hl := lg_lt a
  unfold Ez
  rw [show (((lg a : Nat) : Int) % 255).toNat = lg a from by omega, E_lg ha h]
theorem Ez_congr {m n : Int} (h : m % 255 = n % 255) : Ez m = Ez n := by unfold Ez; rw [h]
set_option maxRecDepth 100000 in
set_option maxHeartbeats 1000000 in
theorem logs_zero (a b : Nat) (n : Int) (ha : a < 256) (hb : b < 256) (h : a = 0 ∨ b = 0) (W : World) :
    Calls Try.prog 4 #[.int .u8 a, .int .u8 b, .int .i64 n] W fun e w' => e = .returned (.bool true) ∧ Below W.heap.size W w' := by
  have hz : gmul a b = 0 := (gmul_eq_zero ha hb).2 h
  have z1 : lgv 0 = 0 := rfl
  have z2 : lge 0 = 10 := rfl
  have l0 : gmul a b < 256 := gmul_lt ha
  rcases h with rfl | rfl
  · go_enter Try.func4, Try.ntmps4
    go_wp2_with (fail)
    refine (log_all 0 ha _).mono ?_
    rintro e wa ⟨rfl, ha1⟩
    go_wp2_with (fail)
    refine (log_all b hb _).mono ?_
    rintro e wb ⟨rfl, hb1⟩
    go_wp2_with (go_at_call 9; refine (mul_i _ _ (by omega) (by omega) (by omega) (by omega) _).mono ?_; rintro e w' ⟨rfl, rfl⟩)
    refine (log_all 0 (by omega) _).mono ?_
    rintro e wc ⟨rfl, hc1⟩
    go_wp2_with (go_at_call 11; refine (heads_any _).mono ?_; rintro e we ⟨rfl, he1⟩)
    go_ret
    exact ⟨rfl, bel_trans ha1 (bel_trans hb1 (bel_trans hc1 he1))⟩
  · by_cases ha0 : a = 0
    · subst ha0
      go_enter Try.func4, Try.ntmps4
      go_wp2_with (fail)
      refine (log_all 0 ha _).mono ?_
      rintro e wa ⟨rfl, ha1⟩
      go_wp2_with (fail)
      refine (log_all 0 ha _).mono ?_
      rintro e wb ⟨rfl, hb1⟩
      go_wp2_with (go_at_call 9; refine (mul_i _ _ (by omega) (by omega) (by omega) (by omega) _).mono ?_; rintro e w' ⟨rfl, rfl⟩)
      refine (log_all 0 (by omega) _).mono ?_
      rintro e wc ⟨rfl, hc1⟩
      go_wp2_with (go_at_call 11; refine (heads_any _).mono ?_; rintro e we ⟨rfl, he1⟩)
      go_ret
      exact ⟨rfl, bel_trans ha1 (bel_trans hb1 (bel_trans hc1 he1))⟩
    · have a0 : ((a : Int) == 0) = false := by simpa using ha0
      go_enter Try.func4, Try.ntmps4
      go_wp2_with (fail)
      refine (log_all a ha _).mono ?_
      rintro e wa ⟨rfl, ha1⟩
      go_wp2_with (fail)
      refine (log_all 0 hb _).mono ?_
      rintro e wb ⟨rfl, hb1⟩
      go_wp2_with (go_at_call 9; refine (mul_i _ _ (by omega) (by omega) (by omega) (by omega) _).mono ?_; rintro e w' ⟨rfl, rfl⟩)
      refine (log_all 0 (by omega) _).mono ?_
      rintro e wc ⟨rfl, hc1⟩
      go_wp2_with (go_at_call 11; refine (heads_any _).mono ?_; rintro e we ⟨rfl, he1⟩)
      go_ret
      exact ⟨rfl, bel_trans ha1 (bel_trans hb1 (bel_trans hc1 he1))⟩
set_option maxRecDepth 100000 in
set_option maxHeartbeats 2000000 in
theorem logs_else (a b : Nat) (n : Int) (ha : a < 256) (hb : b < 256) (h1 : a ≠ 0) (h2 : b ≠ 0) (W : World) :
    Calls Try.prog 4 #[.int .u8 a, .int .u8 b, .int .i64 n] W fun e w' => e = .returned (.bool true) ∧ Below W.heap.size W w' := by
  have a0 : ((a : Int) == 0) = false := by simpa using h1
  have b0 : ((b : Int) == 0) = false := by simpa using h2
  have la := lg_lt a
  have lb := lg_lt b
  have l0 : gmul a b < 256 := gmul_lt ha
  have hne := gmul_ne ha hb h1 h2
  have y1 : lgv a = lg a := if_neg h1
  have y2 : lgv b = lg b := if_neg h2
  have y3 : lgv (gmul a b) = lg (gmul a b) := if_neg hne
  have y4 : lge a = 0 := if_neg h1
  have y5 : lge b = 0 := if_neg h2
  have y6 : lge (gmul a b) = 0 := if_neg hne
  have s1 := lg_sum ha hb h1 h2
  have s2 := Ez_lg ha h1
  obtain ⟨b1, b2⟩ := tmod_bd n
  have ht := tmod_emod n
  obtain ⟨m, hm⟩ : ∃ m, n.tmod 255 = m := ⟨_, rfl⟩
  rw [hm] at b1 b2 ht
  have c1 : Ez m = Ez n := Ez_congr ht
  have c2 : Ez (m + 255) = Ez n := Ez_congr (by omega)
  clear ht
  by_cases hs : m < 0
  all_goals
    go_enter Try.func4, Try.ntmps4
    go_wp2_with (fail)
    refine (log_all a ha _).mono ?_
    rintro e wa ⟨rfl, ha1⟩
    go_wp2_with (fail)
    refine (log_all b hb _).mono ?_
    rintro e wb ⟨rfl, hb1⟩
    go_wp2_with (go_at_call 9; refine (mul_i _ _ (by omega) (by omega) (by omega) (by omega) _).mono ?_; rintro e w' ⟨rfl, rfl⟩)
    refine (log_all (gmul a b) l0 _).mono ?_
    rintro e wc ⟨rfl, hc1⟩
    go_wp2_with (fail)
    refine (exp_z _ _).mono ?_
    rintro e wd ⟨rfl, hd1⟩
    go_wp2_with (fail)
    refine (exp_z _ _).mono ?_
    rintro e we ⟨rfl, he1⟩
    go_wp2_with (fail)
    refine (exp_z _ _).mono ?_
    rintro e wf ⟨rfl, hf1⟩
    go_wp2_with (go_at_call 11; refine (heads_any _).mono ?_; rintro e wg ⟨rfl, hg1⟩)
    go_ret
    exact ⟨rfl, bel_trans ha1 (bel_trans hb1 (bel_trans hc1 (bel_trans hd1 (bel_trans he1 (bel_trans hf1 hg1)))))⟩
theorem walk_GfLogs (W : World) (a0 : Int) (w0 : (Lit.int .u8 a0).wf = true) (a1 : Int) (w1 : (Lit.int .u8 a1).wf = true) (n : Int) (w2 : (Lit.int .i64 n).wf = true) :
    Calls Try.prog 4 #[.int .u8 a0, .int .u8 a1, .int .i64 n] W fun e w' => e = .returned (.bool true) ∧ Below W.heap.size W w' := by
  obtain ⟨a, rfl, ha⟩ := u8_of w0
  obtain ⟨b, rfl, hb⟩ := u8_of w1
  by_cases h : a = 0 ∨ b = 0
  · exact logs_zero a b n ha hb h W
  · exact logs_else a b n ha hb (fun e => h (.inl e)) (fun e => h (.inr e)) W
namespace gfLogs
open Go.ChangeShapes Go.WideShapes Go.ChangeAt Go.RowKit
open Go.ChangeMaps (open_string shut_string)
set_option linter.unusedVariables false
theorem own : ownKnob Try.prog.godebug = none := by kernel_rfl
theorem laidOut : laidOutB Try.prog = true := by kernel_rfl
set_option maxRecDepth 100000 in
theorem contract (H : Type) (enc : TypeId × Value → H) (W : World) (base : Nat) (args : Array Value) (ds gs : List (DataW H)) (before : List MemPlace)
    (hval0 : ∀ (j : Nat) t v, Try.f4.params[j]? = some t → args[j]? = some v → Value.okWide Try.prog W .any base t v)
    (hW : DataW.Whole enc Try.prog Try.f4.params.toList Rows.gfLogsSpec.vars false W args.toList ds gs before) :
    Calls Try.prog 4 args W fun e W' => ∃ v, e = .returned v ∧ Rows.gfLogsSpec.post enc Try.prog Try.f4 false true false false W args v W' := by
  have hval : ∀ (j : Nat) t v, Try.f4.params[j]? = some t → args[j]? = some v → Value.okWide Try.prog W .any base t v := hval0
  have hW' := hW
  obtain ⟨p, q, hA0, hV, rfl, hfz, hnd⟩ := hW
  have hA : DataW.TrodAll enc Try.prog W 0 (fun _ => true) true Try.f4.params.toList args.toList ds p := hA0
  rw [Try.params4] at hA hval
  obtain ⟨v0, vs0, d0, ds0, p0, q0, hargs, rfl, rfl, h0, r0⟩ := trodAll_cons hA
  obtain ⟨v1, vs1, d1, ds1, p1, q1, rfl, rfl, rfl, h1, r1⟩ := trodAll_cons r0
  obtain ⟨v2, vs2, d2, ds2, p2, q2, rfl, rfl, rfl, h2, r2⟩ := trodAll_cons r1
  obtain ⟨rfl, rfl, rfl⟩ := trodAll_nil r2
  obtain rfl : args = #[v0, v1, v2] := by cases args; simp_all
  obtain ⟨rfl, rfl⟩ := trodVars_none hV
  have k0 := h0
  have lt0 : ∀ x ∈ p0, x.block < W.heap.size := by obtain ⟨m, hm⟩ := k0; exact DataW.trod_lt m _ _ _ hm
  have k1 := h1
  have lt1 : ∀ x ∈ p1, x.block < W.heap.size := by obtain ⟨m, hm⟩ := k1; exact DataW.trod_lt m _ _ _ hm
  have k2 := h2
  have lt2 : ∀ x ∈ p2, x.block < W.heap.size := by obtain ⟨m, hm⟩ := k2; exact DataW.trod_lt m _ _ _ hm
  obtain ⟨a0, rfl, rfl, rfl, w0⟩ := open_int Try.underlying5 (hval 0 5 v0 rfl rfl) h0
  obtain ⟨a1, rfl, rfl, rfl, w1⟩ := open_int Try.underlying5 (hval 1 5 v1 rfl rfl) h1
  obtain ⟨a2, rfl, rfl, rfl, w2⟩ := open_int Try.underlying3 (hval 2 3 v2 rfl rfl) h2
  clear hA0 hval0
  refine (walk_GfLogs W a0 w0 a1 w1 a2 w2).mono fun e W' ⟨he, bel⟩ => ?_
  subst he
  exact ⟨_, rfl, _, _, _, [], _, [], hW', trodAll_mk1 (shut_bool Try.underlying4 _), (trodAll_cons_mk (Below.trod laidOut (by kernel_rfl) (of_decide_eq_true (by kernel_rfl)) k0 bel lt0) (trodAll_cons_mk (Below.trod laidOut (by kernel_rfl) (of_decide_eq_true (by kernel_rfl)) k1 bel lt1) (trodAll_cons_mk (Below.trod laidOut (by kernel_rfl) (of_decide_eq_true (by kernel_rfl)) k2 bel lt2) trodAll_mk0))), rfl, bel.frame _, fun h => by cases h⟩
set_option maxRecDepth 100000 in
theorem lifted (os : Os) (started : os.Started) (H : Type) (enc : TypeId × Value → H) :
    ReturnsInHanded {} Try.checked os 4 .any (Rows.gfLogsSpec.pre6 enc Try.prog Try.f4 Rows.gfLogsRow.domain false) (Rows.gfLogsSpec.post enc Try.prog Try.f4 false true false false) := by
  refine returnsInHanded_of_change (C := Try.checked) own started (by kernel_rfl) Try.func4
    (ChangeSpec.witness6 (enc := enc) (C := Try.checked) false ⟨#[], #[.int .u8 0, .int .u8 0, .int .i64 0], []⟩ 8 (by kernel_rfl) (by kernel_rfl) (by kernel_rfl) (by kernel_rfl)) ?_
  intro W base args ds gs before hval hW _ _
  exact contract H enc W base args ds gs before hval hW
theorem over : Rows.gfLogsRow.holds Try.pinned (OpenSpec.ofChange Rows.gfLogsSpec) :=
  OpenClaim.holds_of_wide 4 Try.f4 rfl rfl rfl rfl rfl rfl rfl ⟨rfl, rfl, rfl, rfl, rfl⟩ rfl rfl rfl rfl rfl (by kernel_rfl) Try.func4 (by kernel_rfl)
    (of_decide_eq_true (by kernel_rfl)) (by unfold Func.isWrapper; first | (rw [if_pos (by decide +kernel)]; kernel_rfl) | (rw [if_neg (by decide +kernel)]; exact ⟨rfl, rfl⟩))
    (fun os started H enc _ => lifted os started H enc)
/-- THE STATEMENT. -/
theorem proved : Rows.GfLogsSaid := over
end gfLogs
end Go.Proofs.Ytabdjiibbbgodaa
