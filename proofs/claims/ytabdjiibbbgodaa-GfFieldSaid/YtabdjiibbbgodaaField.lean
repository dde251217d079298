/-
  GfField holds for every three bytes: the elements are a field.
-/
import Derived.Test.YtabdjiibbbgodaaW5
namespace Go.Proofs.Ytabdjiibbbgodaa
open Go.RowKit GfMath
theorem u8_of {a : Int} (w : (Lit.int .u8 a).wf = true) : ∃ n : Nat, a = n ∧ n < 256 := by
  have hx : 0 ≤ a ∧ a ≤ 255 := by simpa [Lit.wf, IntKind.min, IntKind.max, IntKind.signed, IntKind.bits] using w
  exact ⟨a.toNat, by omega, by omega⟩
theorem mul_i (a b : Int) (ha0 : 0 ≤ a) (ha : a < 256) (hb0 : 0 ≤ b) (hb : b < 256) (w : World) :
    Calls Try.prog 9 #[.int .u8 a, .int .u8 b] w fun e w' => e = .returned (.int .u8 (gmul a.toNat b.toNat : Nat)) ∧ w = w' := by
  obtain ⟨A, rfl⟩ := Int.eq_ofNat_of_zero_le ha0
  obtain ⟨B, rfl⟩ := Int.eq_ofNat_of_zero_le hb0
  exact (mul_any A B (by omega) (by omega) w).mono fun e w' ⟨h1, h2⟩ => ⟨h1, h2.symm⟩
set_option maxRecDepth 100000 in
set_option maxHeartbeats 1000000 in
theorem field_zero (a c : Nat) (ha : a < 256) (hc : c < 256) (w : World) :
    Calls Try.prog 3 #[.int .u8 a, .int .u8 0, .int .u8 c] w fun e w' => e = .returned (.bool true) ∧ Below w.heap.size w w' := by
  have e1 : gmul 0 a = 0 := zero_gmul ha
  have e2 : gmul a 0 = 0 := gmul_zero a
  have e3 : gmul 0 c = 0 := zero_gmul hc
  have e4 : gmul a 1 = a := gmul_one ha
  have e5 : bits .xor .u8 0 (c : Int) = (c : Int) := by simpa using xor8 0 c (by omega) hc
  have l1 : gmul a c < 256 := gmul_lt ha
  have e6 : bits .xor .u8 0 ((gmul a c : Nat) : Int) = ((gmul a c : Nat) : Int) := by simpa using xor8 0 (gmul a c) (by omega) l1
  go_enter Try.func3, Try.ntmps3
  go_wp2_with (first | (go_at_call 9; refine (mul_i _ _ (by omega) (by omega) (by omega) (by omega) _).mono ?_; rintro e w' ⟨rfl, rfl⟩) | (go_at_call 10; refine (div_zero a _).mono ?_; rintro e w' ⟨rfl, rfl⟩) | (go_at_call 11; refine (heads_any _).mono ?_; rintro e w1 ⟨rfl, hb⟩))
  go_ret
  exact ⟨rfl, hb⟩
set_option maxRecDepth 100000 in
set_option maxHeartbeats 1000000 in
theorem field_else (a b c : Nat) (ha : a < 256) (ha0 : a ≠ 0) (hb : b < 256) (hb0 : b ≠ 0) (hc : c < 256) (w : World) :
    Calls Try.prog 3 #[.int .u8 a, .int .u8 b, .int .u8 c] w fun e w' => e = .returned (.bool true) ∧ Below w.heap.size w w' := by
  have e1 : gmul b a = gmul a b := gmul_comm hb ha
  have e2 : gmul a (gmul b c) = gmul (gmul a b) c := gmul_assoc ha hb hc
  have e3 : gmul a (b ^^^ c) = gmul a b ^^^ gmul a c := gmul_xor a b c
  have e4 : gmul a 1 = a := gmul_one ha
  have e5 : gmul a 0 = 0 := gmul_zero a
  have x1 := xor8 b c hb hc
  have l1 : gmul a b < 256 := gmul_lt ha
  have l2 : gmul a c < 256 := gmul_lt ha
  have l3 : gmul b c < 256 := gmul_lt hb
  have l4 : b ^^^ c < 256 := xor_lt hb hc
  have x2 := xor8 (gmul a b) (gmul a c) l1 l2
  have l5 := gdiv_lt a b
  have e6 : gmul (gdiv a b) b = a := gdiv_mul ha hb hb0
  have b0 : ((b : Int) == 0) = false := by simpa using hb0
  have a0 : ((a : Int) == 0) = false := by simpa using ha0
  have n0 : (((gmul a b : Nat) : Int) != 0) = true := by simpa using gmul_ne ha hb ha0 hb0
  go_enter Try.func3, Try.ntmps3
  go_wp2_with (first | (go_at_call 9; refine (mul_i _ _ (by omega) (by omega) (by omega) (by omega) _).mono ?_; rintro e w' ⟨rfl, rfl⟩) | (go_at_call 10; refine (div_any a b ha hb hb0 _).mono ?_; rintro e w0 ⟨rfl, hb0⟩) | (go_at_call 11; refine (heads_any _).mono ?_; rintro e w1 ⟨rfl, hb1⟩))
  go_ret
  exact ⟨rfl, bel_trans hb0 hb1⟩
set_option maxRecDepth 100000 in
set_option maxHeartbeats 1000000 in
theorem field_nought (b c : Nat) (hb : b < 256) (hb0 : b ≠ 0) (hc : c < 256) (w : World) :
    Calls Try.prog 3 #[.int .u8 0, .int .u8 b, .int .u8 c] w fun e w' => e = .returned (.bool true) ∧ Below w.heap.size w w' := by
  have e1 : gmul b 0 = 0 := gmul_zero b
  have e2 : gmul 0 b = 0 := zero_gmul hb
  have e3 : gmul 0 c = 0 := zero_gmul hc
  have x1 := xor8 b c hb hc
  have l3 : gmul b c < 256 := gmul_lt hb
  have l4 : b ^^^ c < 256 := xor_lt hb hc
  have e4 : gmul 0 (b ^^^ c) = 0 := zero_gmul l4
  have e5 : gmul 0 (gmul b c) = 0 := zero_gmul l3
  have e6 : gmul 0 1 = 0 := zero_gmul (by omega)
  have e7 : gmul 0 0 = 0 := zero_gmul (by omega)
  have x2 : bits .xor .u8 0 0 = 0 := by decide
  have e8 : gdiv 0 b = 0 := rfl
  have b0 : ((b : Int) == 0) = false := by simpa using hb0
  go_enter Try.func3, Try.ntmps3
  go_wp2_with (first | (go_at_call 9; refine (mul_i _ _ (by omega) (by omega) (by omega) (by omega) _).mono ?_; rintro e w' ⟨rfl, rfl⟩) | (go_at_call 10; refine (div_nought b hb0 _).mono ?_; rintro e w0 ⟨rfl, rfl⟩) | (go_at_call 11; refine (heads_any _).mono ?_; rintro e w1 ⟨rfl, hb1⟩))
  go_ret
  exact ⟨rfl, hb1⟩
theorem walk_GfField (W : World) (a0 : Int) (w0 : (Lit.int .u8 a0).wf = true) (a1 : Int) (w1 : (Lit.int .u8 a1).wf = true) (a2 : Int) (w2 : (Lit.int .u8 a2).wf = true) :
    Calls Try.prog 3 #[.int .u8 a0, .int .u8 a1, .int .u8 a2] W fun e w' => e = .returned (.bool true) ∧ Below W.heap.size W w' := by
  obtain ⟨a, rfl, ha⟩ := u8_of w0
  obtain ⟨b, rfl, hb⟩ := u8_of w1
  obtain ⟨c, rfl, hc⟩ := u8_of w2
  by_cases h : b = 0
  · subst h; exact field_zero a c ha hc W
  · by_cases h0 : a = 0
    · subst h0; exact field_nought b c hb h hc W
    · exact field_else a b c ha h0 hb h hc W
namespace gfField
open Go.ChangeShapes Go.WideShapes Go.ChangeAt Go.RowKit
open Go.ChangeMaps (open_string shut_string)
set_option linter.unusedVariables false
theorem own : ownKnob Try.prog.godebug = none := by kernel_rfl
theorem laidOut : laidOutB Try.prog = true := by kernel_rfl
set_option maxRecDepth 100000 in
theorem contract (H : Type) (enc : TypeId × Value → H) (W : World) (base : Nat) (args : Array Value) (ds gs : List (DataW H)) (before : List MemPlace)
    (hval0 : ∀ (j : Nat) t v, Try.f3.params[j]? = some t → args[j]? = some v → Value.okWide Try.prog W .any base t v)
    (hW : DataW.Whole enc Try.prog Try.f3.params.toList Rows.gfFieldSpec.vars false W args.toList ds gs before) :
    Calls Try.prog 3 args W fun e W' => ∃ v, e = .returned v ∧ Rows.gfFieldSpec.post enc Try.prog Try.f3 false true false false W args v W' := by
  have hval : ∀ (j : Nat) t v, Try.f3.params[j]? = some t → args[j]? = some v → Value.okWide Try.prog W .any base t v := hval0
  have hW' := hW
  obtain ⟨p, q, hA0, hV, rfl, hfz, hnd⟩ := hW
  have hA : DataW.TrodAll enc Try.prog W 0 (fun _ => true) true Try.f3.params.toList args.toList ds p := hA0
  rw [Try.params3] at hA hval
  obtain ⟨v0, vs0, d0, ds0, p0, q0, hargs, rfl, rfl, h0, r0⟩ := trodAll_cons hA
  obtain ⟨v1, vs1, d1, ds1, p1, q1, rfl, rfl, rfl, h1, r1⟩ := trodAll_cons r0
  obtain ⟨v2, vs2, d2, ds2, p2, q2, rfl, rfl, rfl, h2, r2⟩ := trodAll_cons r1
  obtain ⟨rfl, rfl, rfl⟩ := trodAll_nil r2
  obtain rfl : args = #[v0, v1, v2] := by cases args; simp_all
  obtain ⟨rfl, rfl⟩ := trodVars_none hV
  have k0 := h0
  have lt0 : ∀ x ∈ p0, x.block < W.heap.size := by obtain ⟨m, hm⟩ := k0; exact DataW.trod_lt m _ _ _ hm
  have k1 := h1
  have lt1 : ∀ x ∈ p1, x.block < W.heap.size := by obtain ⟨m, hm⟩ := k1; exact DataW.trod_lt m _ _ _ hm
  have k2 := h2
  have lt2 : ∀ x ∈ p2, x.block < W.heap.size := by obtain ⟨m, hm⟩ := k2; exact DataW.trod_lt m _ _ _ hm
  obtain ⟨a0, rfl, rfl, rfl, w0⟩ := open_int Try.underlying5 (hval 0 5 v0 rfl rfl) h0
  obtain ⟨a1, rfl, rfl, rfl, w1⟩ := open_int Try.underlying5 (hval 1 5 v1 rfl rfl) h1
  obtain ⟨a2, rfl, rfl, rfl, w2⟩ := open_int Try.underlying5 (hval 2 5 v2 rfl rfl) h2
  clear hA0 hval0
  refine (walk_GfField W a0 w0 a1 w1 a2 w2).mono fun e W' ⟨he, bel⟩ => ?_
  subst he
  exact ⟨_, rfl, _, _, _, [], _, [], hW', trodAll_mk1 (shut_bool Try.underlying4 _), (trodAll_cons_mk (Below.trod laidOut (by kernel_rfl) (of_decide_eq_true (by kernel_rfl)) k0 bel lt0) (trodAll_cons_mk (Below.trod laidOut (by kernel_rfl) (of_decide_eq_true (by kernel_rfl)) k1 bel lt1) (trodAll_cons_mk (Below.trod laidOut (by kernel_rfl) (of_decide_eq_true (by kernel_rfl)) k2 bel lt2) trodAll_mk0))), rfl, bel.frame _, fun h => by cases h⟩
set_option maxRecDepth 100000 in
theorem lifted (os : Os) (started : os.Started) (H : Type) (enc : TypeId × Value → H) :
    ReturnsInHanded {} Try.checked os 3 .any (Rows.gfFieldSpec.pre6 enc Try.prog Try.f3 Rows.gfFieldRow.domain false) (Rows.gfFieldSpec.post enc Try.prog Try.f3 false true false false) := by
  refine returnsInHanded_of_change (C := Try.checked) own started (by kernel_rfl) Try.func3
    (ChangeSpec.witness6 (enc := enc) (C := Try.checked) false ⟨#[], #[.int .u8 0, .int .u8 0, .int .u8 0], []⟩ 8 (by kernel_rfl) (by kernel_rfl) (by kernel_rfl) (by kernel_rfl)) ?_
  intro W base args ds gs before hval hW _ _
  exact contract H enc W base args ds gs before hval hW
theorem over : Rows.gfFieldRow.holds Try.pinned (OpenSpec.ofChange Rows.gfFieldSpec) :=
  OpenClaim.holds_of_wide 3 Try.f3 rfl rfl rfl rfl rfl rfl rfl ⟨rfl, rfl, rfl, rfl, rfl⟩ rfl rfl rfl rfl rfl (by kernel_rfl) Try.func3 (by kernel_rfl)
    (of_decide_eq_true (by kernel_rfl)) (by unfold Func.isWrapper; first | (rw [if_pos (by decide +kernel)]; kernel_rfl) | (rw [if_neg (by decide +kernel)]; exact ⟨rfl, rfl⟩))
    (fun os started H enc _ => lifted os started H enc)
/-- THE STATEMENT. -/
theorem proved : Rows.GfFieldSaid := over
end gfField
end Go.Proofs.Ytabdjiibbbgodaa
