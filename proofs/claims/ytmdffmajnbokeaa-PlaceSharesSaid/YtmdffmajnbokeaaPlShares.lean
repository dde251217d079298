/-
  The law PlaceShares: its walk, and the statement.
-/
import Derived.Test.YtmdffmajnbokeaaPlIn
namespace Go.Proofs.Ytmdffmajnbokeaa
open Go.RowKit StrMath PlMath
set_option linter.unusedVariables false
theorem groupN_bad (s : ByteArray) {g : Int} (h : g < 1 ∨ 64 < g) : groupN s g = (0, 2) := by unfold groupN; rw [if_pos h]
theorem groupN_ok (s : ByteArray) {g : Int} (h : ¬ (g < 1 ∨ 64 < g)) : ∃ x : Nat, groupN s g = ((x : Int), 0) ∧ (x : Int) < g := by
  refine ⟨textN (natsOf s) % g.toNat, by unfold groupN; rw [if_neg h], ?_⟩
  have := Nat.mod_lt (textN (natsOf s)) (show 0 < g.toNat by omega)
  omega
theorem groupN_one (s : ByteArray) : groupN s 1 = (0, 0) := by
  unfold groupN
  rw [if_neg (by omega), show (1 : Int).toNat = 1 from rfl, Nat.mod_one]
  rfl
set_option maxRecDepth 100000 in
theorem walk_PlaceShares (W : World) (s : ByteArray) (hs : s.size ≤ maxLen) (g : Int) (wg : Lit.wf (.int .i64 g)) :
    Calls Try.prog 5 #[.string s, .int .i64 g] W fun e w' => e = .returned (.bool true) ∧ Below W.heap.size W w' := by
  have HG := fun W => group_any s g W hs
  have H1 := fun W => group_any s 1 W hs
  rw [groupN_one] at H1
  have H1 := Lib.hid H1
  by_cases hb : g < 1 ∨ 64 < g
  · rw [groupN_bad s hb] at HG
    have HG := Lib.hid HG
    have aux : decide (g < 1) = true ∨ (decide (g < 1) = false ∧ decide (64 < g) = true) := by
      simp only [decide_eq_true_eq, decide_eq_false_iff_not]; omega
    clear hb
    rcases aux with d1 | ⟨d1, d2⟩
    all_goals
      go_enter Try.func5, Try.ntmps5
      go_wp2_with fail
      refine (HG.out W).mono ?_
      rintro e w1 ⟨rfl, hb1⟩
      go_wp2_with fail
      refine (heads_any w1).mono ?_
      rintro e w2 ⟨rfl, hb2⟩
      go_wp2
      go_ret
      exact ⟨rfl, bel_trans hb1 hb2⟩
  · obtain ⟨x, ex, hx⟩ := groupN_ok s hb
    rw [ex] at HG
    have HG := Lib.hid HG
    have d1 : decide (g < 1) = false := decide_eq_false (by omega)
    have d2 : decide (64 < g) = false := decide_eq_false (by omega)
    have d3 : decide ((x : Int) < g) = true := decide_eq_true hx
    clear ex
    go_enter Try.func5, Try.ntmps5
    go_wp2_with fail
    refine (HG.out W).mono ?_
    rintro e w1 ⟨rfl, hb1⟩
    go_wp2_with fail
    refine (HG.out w1).mono ?_
    rintro e w2 ⟨rfl, hb2⟩
    have hb3 := bel_trans hb1 hb2
    clear hb1 hb2
    go_wp2_with fail
    refine (H1.out w2).mono ?_
    rintro e w3 ⟨rfl, hb4⟩
    have hb5 := bel_trans hb3 hb4
    clear hb3 hb4
    go_wp2_with fail
    refine (heads_any w3).mono ?_
    rintro e w4 ⟨rfl, hb6⟩
    go_wp2
    go_ret
    exact ⟨rfl, bel_trans hb5 hb6⟩
namespace placeShares
open Go.ChangeShapes Go.WideShapes Go.ChangeAt Go.RowKit
open Go.ChangeMaps (open_string shut_string)
set_option linter.unusedVariables false
theorem own : ownKnob Try.prog.godebug = none := by kernel_rfl
theorem laidOut : laidOutB Try.prog = true := by kernel_rfl
set_option maxRecDepth 100000 in
theorem contract (H : Type) (enc : TypeId × Value → H) (W : World) (base : Nat) (args : Array Value) (ds gs : List (DataW H)) (before : List MemPlace)
    (hval0 : ∀ (j : Nat) t v, Try.f5.params[j]? = some t → args[j]? = some v → Value.okWide Try.prog W .any base t v)
    (hW : DataW.Whole enc Try.prog Try.f5.params.toList Rows.placeSharesSpec.vars false W args.toList ds gs before) :
    Calls Try.prog 5 args W fun e W' => ∃ v, e = .returned v ∧ Rows.placeSharesSpec.post enc Try.prog Try.f5 false true false false W args v W' := by
  have hval : ∀ (j : Nat) t v, Try.f5.params[j]? = some t → args[j]? = some v → Value.okWide Try.prog W .any base t v := hval0
  have hW' := hW
  obtain ⟨p, q, hA0, hV, rfl, hfz, hnd⟩ := hW
  have hA : DataW.TrodAll enc Try.prog W 0 (fun _ => true) true Try.f5.params.toList args.toList ds p := hA0
  rw [Try.params5] at hA hval
  obtain ⟨v0, vs0, d0, ds0, p0, q0, hargs, rfl, rfl, h0, r0⟩ := trodAll_cons hA
  obtain ⟨v1, vs1, d1, ds1, p1, q1, rfl, rfl, rfl, h1, r1⟩ := trodAll_cons r0
  obtain ⟨rfl, rfl, rfl⟩ := trodAll_nil r1
  obtain rfl : args = #[v0, v1] := by cases args; simp_all
  obtain ⟨rfl, rfl⟩ := trodVars_none hV
  have k0 := h0
  have lt0 : ∀ x ∈ p0, x.block < W.heap.size := by obtain ⟨m, hm⟩ := k0; exact DataW.trod_lt m _ _ _ hm
  have k1 := h1
  have lt1 : ∀ x ∈ p1, x.block < W.heap.size := by obtain ⟨m, hm⟩ := k1; exact DataW.trod_lt m _ _ _ hm
  obtain ⟨a0, rfl, rfl, rfl, w0⟩ := open_string Try.underlying9 (hval 0 9 v0 rfl rfl) h0
  obtain ⟨a1, rfl, rfl, rfl, w1⟩ := open_int Try.underlying3 (hval 1 3 v1 rfl rfl) h1
  clear hA0 hval0
  refine (walk_PlaceShares W a0 w0 a1 w1).mono fun e W' ⟨he, bel⟩ => ?_
  subst he
  exact ⟨_, rfl, _, _, _, [], _, [], hW', trodAll_mk1 (shut_bool Try.underlying4 _), (trodAll_cons_mk (Below.trod laidOut (by kernel_rfl) (of_decide_eq_true (by kernel_rfl)) k0 bel lt0) (trodAll_cons_mk (Below.trod laidOut (by kernel_rfl) (of_decide_eq_true (by kernel_rfl)) k1 bel lt1) trodAll_mk0)), rfl, bel.frame _, fun h => by cases h⟩
set_option maxRecDepth 100000 in
theorem lifted (os : Os) (started : os.Started) (H : Type) (enc : TypeId × Value → H) :
    ReturnsInHanded {} Try.checked os 5 .any (Rows.placeSharesSpec.pre6 enc Try.prog Try.f5 Rows.placeSharesRow.domain false) (Rows.placeSharesSpec.post enc Try.prog Try.f5 false true false false) := by
  refine returnsInHanded_of_change (C := Try.checked) own started (by kernel_rfl) Try.func5
    (ChangeSpec.witness6 (enc := enc) (C := Try.checked) false ⟨#[], #[.string ⟨#[]⟩, .int .i64 0], []⟩ 8 (by kernel_rfl) (by kernel_rfl) (by kernel_rfl) (by kernel_rfl)) ?_
  intro W base args ds gs before hval hW _ _
  exact contract H enc W base args ds gs before hval hW
theorem over : Rows.placeSharesRow.holds Try.pinned (OpenSpec.ofChange Rows.placeSharesSpec) :=
  OpenClaim.holds_of_wide 5 Try.f5 rfl rfl rfl rfl rfl rfl rfl ⟨rfl, rfl, rfl, rfl, rfl⟩ rfl rfl rfl rfl rfl (by kernel_rfl) Try.func5 (by kernel_rfl)
    (of_decide_eq_true (by kernel_rfl)) (by unfold Func.isWrapper; first | (rw [if_pos (by decide +kernel)]; kernel_rfl) | (rw [if_neg (by decide +kernel)]; exact ⟨rfl, rfl⟩))
    (fun os started H enc _ => lifted os started H enc)
/-- THE STATEMENT. -/
theorem proved : Rows.PlaceSharesSaid := over
end placeShares
end Go.Proofs.Ytmdffmajnbokeaa
