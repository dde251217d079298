/-
  MatrixSolves holds for every row of bytes, number and column: the inverse undoes what a matrix does to a column.
-/
import Derived.Test.YtebpaafofombaaaMxW20
namespace Go.Proofs.Ytebpaafofombaaa
open Go.RowKit GfMath MxMath
set_option linter.unusedVariables false
set_option maxRecDepth 100000 in
set_option maxHeartbeats 1000000 in
theorem solves_else (A B : Option Addr) (len cap m cap' : Nat) (a : Int) (W : World) (hm : m ≤ 9223372036854775807) (h : a < 1 ∨ 12 < a ∨ (m : Int) ≠ a) : Calls Try.prog 5 #[.slice A len cap, .int .i64 a, .slice B m cap'] W (Yes W) := by
  by_cases h1 : a < 1
  · go_enter Try.func5, Try.ntmps5
    go_wp2_with (go_at_call 9; refine (heads_true _).mono ?_; rintro e w1 ⟨rfl, hb⟩; have HB := Lib.hid hb; clear hb)
    go_ret
    exact ⟨rfl, HB.out⟩
  by_cases h2 : 12 < a
  · go_enter Try.func5, Try.ntmps5
    go_wp2_with (go_at_call 9; refine (heads_true _).mono ?_; rintro e w1 ⟨rfl, hb⟩; have HB := Lib.hid hb; clear hb)
    go_ret
    exact ⟨rfl, HB.out⟩
  · have h3 : (m : Int) ≠ a := by omega
    have e1 : ((m : Int) != a) = true := by simp; omega
    have e2 : ((m : Int) == a) = false := by simp; omega
    clear h
    go_enter Try.func5, Try.ntmps5
    go_wp2_with (go_at_call 9; refine (heads_true _).mono ?_; rintro e w1 ⟨rfl, hb⟩; have HB := Lib.hid hb; clear hb)
    go_ret
    exact ⟨rfl, HB.out⟩
set_option maxRecDepth 100000 in
set_option maxHeartbeats 2000000 in
theorem solves_not (A B : Option Addr) (len cap n cap' : Nat) (xs : List Nat) (f : Nat → El) (W : World) (hx : Byt xs) (hl : xs.length = len) (HA : Hid (Reads W W.heap.size 1 A len (xs.map bv))) (I0 : Hid (Reads W W.heap.size 1 B n ((lrow n f).map bv))) (hm : len ≤ maxLen) (n0 : 0 < n) (n1 : n ≤ 12) (hr : rankN n n (sqM xs n) ≠ n) :
    Calls Try.prog 5 #[.slice A len cap, .int .i64 n, .slice B n cap'] W (Yes W) := by
  have BB := Lib.hid (Below.refl W.heap.size W)
  have HL := Lib.hid hl
  have HX := Lib.hid hx
  obtain ⟨M, hM⟩ : ∃ M, sqM xs n = M := ⟨_, rfl⟩
  rw [hM] at hr
  have HM := Lib.hid hM
  have HR := Lib.hid hr
  have hn : n ≤ 255 := by omega
  have e0 : ((n : Int) != (n : Int)) = false := by simp
  clear hM hr hl hx
  go_enter Try.func5, Try.ntmps5
  go_wp2_with (first
    | (go_at_call 10; refine (square_any A cap len n xs _ HX.out HL.out HA (by omega) hm).mono ?_; rintro e w1 ⟨v1, rfl, h1⟩; rw [HM.out] at h1; obtain ⟨A1, c1, rfl, i1⟩ := own_mat h1.own; have I1 := Lib.hid i1; have hb := h1.bel; clear h1 i1; have I0 := Lib.hid (I0.out.later hb); have BB := Lib.hid (bel_trans BB.out hb); clear hb)
    | (go_at_call 21; refine (apply_ok _ _ _ _ n n M f _ I1 I0 n0 hn n0 hn).mono ?_; rintro e w2 h2; obtain ⟨A2, c2, rfl, _, _, o2, hb⟩ := h2; have I2 := Lib.hid (Reads.of_own o2); clear o2; have I0 := Lib.hid (I0.out.later hb); have I1 := Lib.hid (I1.out.later hb); have BB := Lib.hid (bel_trans BB.out hb); clear hb)
    | (go_at_call 12; refine (invert_not _ _ n M _ I1 n0 hn HR.out).mono ?_; rintro e w3 ⟨rfl, hb⟩; have I0 := Lib.hid (I0.out.later hb); have I1 := Lib.hid (I1.out.later hb); have BB := Lib.hid (bel_trans BB.out hb); clear hb)
    | (go_at_call 9; refine (heads_true _).mono ?_; rintro e w5 ⟨rfl, hb⟩; have BB := Lib.hid (bel_trans BB.out hb); clear hb))
  go_ret
  exact ⟨rfl, BB.out⟩
set_option maxRecDepth 100000 in
set_option maxHeartbeats 2000000 in
theorem solves_ok (A B : Option Addr) (len cap n cap' : Nat) (xs : List Nat) (f : Nat → El) (W : World) (hx : Byt xs) (hl : xs.length = len) (HA : Hid (Reads W W.heap.size 1 A len (xs.map bv))) (I0 : Hid (Reads W W.heap.size 1 B n ((lrow n f).map bv))) (hm : len ≤ maxLen) (n0 : 0 < n) (n1 : n ≤ 12) (hr : rankN n n (sqM xs n) = n) :
    Calls Try.prog 5 #[.slice A len cap, .int .i64 n, .slice B n cap'] W (Yes W) := by
  have BB := Lib.hid (Below.refl W.heap.size W)
  have HL := Lib.hid hl
  have HX := Lib.hid hx
  obtain ⟨M, hM⟩ : ∃ M, sqM xs n = M := ⟨_, rfl⟩
  rw [hM] at hr
  have HM := Lib.hid hM
  have HR := Lib.hid hr
  have hn : n ≤ 255 := by omega
  have e0 : ((n : Int) != (n : Int)) = false := by simp
  have HI := Lib.hid (inv_both hr)
  have K1 : Hid (lrow n (fun i => fsum n (fun j => invM n M i j * fsum n (fun k => M j k * f k))) = lrow n f) := Lib.hid (lrow_congr (undo_col HI.out.1 f))
  clear hM hr hl hx
  have tok1 : True := trivial
  go_enter Try.func5, Try.ntmps5
  go_wp2_with (first
    | (go_at_call 10; refine (square_any A cap len n xs _ HX.out HL.out HA (by omega) hm).mono ?_; rintro e w1 ⟨v1, rfl, h1⟩; rw [HM.out] at h1; obtain ⟨A1, c1, rfl, i1⟩ := own_mat h1.own; have I1 := Lib.hid i1; have hb := h1.bel; clear h1 i1; have I0 := Lib.hid (I0.out.later hb); have BB := Lib.hid (bel_trans BB.out hb); clear hb)
    | (go_at_call 21; have _t := tok1; refine (apply_ok _ _ _ _ n n M f _ I1 I0 n0 hn n0 hn).mono ?_; rintro e w2 h2; clear tok1 _t; obtain ⟨A2, c2, rfl, _, _, o2, hb⟩ := h2; have I2 := Lib.hid (Reads.of_own o2); clear o2; have I0 := Lib.hid (I0.out.later hb); have I1 := Lib.hid (I1.out.later hb); have BB := Lib.hid (bel_trans BB.out hb); clear hb)
    | (go_at_call 12; refine (invert_ok _ _ n M _ I1 n0 hn HR.out).mono ?_; rintro e w3 ⟨v3, rfl, h3⟩; obtain ⟨A3, c3, rfl, i3⟩ := own_mat h3.own; have I3 := Lib.hid i3; have hb := h3.bel; clear h3 i3; have I0 := Lib.hid (I0.out.later hb); have I1 := Lib.hid (I1.out.later hb); have I2 := Lib.hid (I2.out.later hb); have BB := Lib.hid (bel_trans BB.out hb); clear hb)
    | (go_at_call 21; refine (apply_ok _ _ _ _ n n (invM n M) _ _ I3 I2 n0 hn n0 hn).mono ?_; rintro e w4 h4; unfold RetRowE at h4; rw [K1.out] at h4; obtain ⟨A4, c4, rfl, _, _, o4, hb⟩ := h4; have I4 := Lib.hid (Reads.of_own o4); clear o4; have I0 := Lib.hid (I0.out.later hb); have BB := Lib.hid (bel_trans BB.out hb); clear hb)
    | (go_at_call 22; refine (same_any _ _ _ _ n n (lrow n f) (lrow n f) _ (lrow_byt _ _) (lrow_byt _ _) I4.out I0.out).mono ?_; rintro e w5 ⟨rfl, rfl⟩; rw [sameb_true])
    | (go_at_call 9; refine (heads_true _).mono ?_; rintro e w6 ⟨rfl, hb⟩; have BB := Lib.hid (bel_trans BB.out hb); clear hb))
  go_ret
  exact ⟨rfl, BB.out⟩
theorem walk_MatrixSolves (W : World) (A : Option Addr) (len cap : Nat) (z : List Int) (h : Ints .u8 W A len cap z) (a : Int) (wa : (Lit.int .i64 a).wf = true) (B : Option Addr) (m cap' : Nat) (z' : List Int) (h' : Ints .u8 W B m cap' z') :
    Calls Try.prog 5 #[.slice A len cap, .int .i64 a, .slice B m cap'] W (Yes W) := by
  obtain ⟨xs, hx, hl, hr, h1, h2⟩ := h.bytes
  obtain ⟨ys, hy, hly, hry, h3, h4⟩ := h'.bytes
  unfold maxLen at h2 h4
  by_cases e : a < 1 ∨ 12 < a ∨ (m : Int) ≠ a
  · exact solves_else A B len cap m cap' a W (by omega) e
  · obtain rfl : a = (m : Int) := by omega
    by_cases hk : rankN m m (sqM xs m) = m
    · exact solves_ok A B len cap m cap' xs (col ys) W hx hl (Lib.hid hr) (Lib.hid (col_reads hy hly hry)) (by unfold maxLen; omega) (by omega) (by omega) hk
    · exact solves_not A B len cap m cap' xs (col ys) W hx hl (Lib.hid hr) (Lib.hid (col_reads hy hly hry)) (by unfold maxLen; omega) (by omega) (by omega) hk
namespace matrixSolves
open Go.ChangeShapes Go.WideShapes Go.ChangeAt Go.RowKit
open Go.ChangeMaps (open_string shut_string)
set_option linter.unusedVariables false
theorem own : ownKnob Try.prog.godebug = none := by kernel_rfl
theorem laidOut : laidOutB Try.prog = true := by kernel_rfl
set_option maxRecDepth 100000 in
theorem contract (H : Type) (enc : TypeId × Value → H) (W : World) (base : Nat) (args : Array Value) (ds gs : List (DataW H)) (before : List MemPlace)
    (hval0 : ∀ (j : Nat) t v, Try.f5.params[j]? = some t → args[j]? = some v → Value.okWide Try.prog W .any base t v)
    (hW : DataW.Whole enc Try.prog Try.f5.params.toList Rows.matrixSolvesSpec.vars false W args.toList ds gs before) :
    Calls Try.prog 5 args W fun e W' => ∃ v, e = .returned v ∧ Rows.matrixSolvesSpec.post enc Try.prog Try.f5 false true false false W args v W' := by
  have hval : ∀ (j : Nat) t v, Try.f5.params[j]? = some t → args[j]? = some v → Value.okWide Try.prog W .any base t v := hval0
  have hW' := hW
  obtain ⟨p, q, hA0, hV, rfl, hfz, hnd⟩ := hW
  have hA : DataW.TrodAll enc Try.prog W 0 (fun _ => true) true Try.f5.params.toList args.toList ds p := hA0
  rw [Try.params5] at hA hval
  obtain ⟨v0, vs0, d0, ds0, p0, q0, hargs, rfl, rfl, h0, r0⟩ := trodAll_cons hA
  obtain ⟨v1, vs1, d1, ds1, p1, q1, rfl, rfl, rfl, h1, r1⟩ := trodAll_cons r0
  obtain ⟨v2, vs2, d2, ds2, p2, q2, rfl, rfl, rfl, h2, r2⟩ := trodAll_cons r1
  obtain ⟨rfl, rfl, rfl⟩ := trodAll_nil r2
  obtain rfl : args = #[v0, v1, v2] := by cases args; simp_all
  obtain ⟨rfl, rfl⟩ := trodVars_none hV
  have k0 := h0
  have lt0 : ∀ x ∈ p0, x.block < W.heap.size := by obtain ⟨m, hm⟩ := k0; exact DataW.trod_lt m _ _ _ hm
  have k1 := h1
  have lt1 : ∀ x ∈ p1, x.block < W.heap.size := by obtain ⟨m, hm⟩ := k1; exact DataW.trod_lt m _ _ _ hm
  have k2 := h2
  have lt2 : ∀ x ∈ p2, x.block < W.heap.size := by obtain ⟨m, hm⟩ := k2; exact DataW.trod_lt m _ _ _ hm
  obtain ⟨A0, len0, cap0, rfl⟩ := okWide_slice Try.underlying22 (hval 0 22 v0 rfl rfl)
  obtain ⟨z0, w0⟩ := open_in_ints Try.underlying22 Try.underlying5 (by kernel_rfl) h0
  obtain ⟨a1, rfl, rfl, rfl, w1⟩ := open_int Try.underlying3 (hval 1 3 v1 rfl rfl) h1
  obtain ⟨A2, len2, cap2, rfl⟩ := okWide_slice Try.underlying22 (hval 2 22 v2 rfl rfl)
  obtain ⟨z2, w2⟩ := open_in_ints Try.underlying22 Try.underlying5 (by kernel_rfl) h2
  clear hA0 hval0
  refine (walk_MatrixSolves W A0 len0 cap0 z0 w0 a1 w1 A2 len2 cap2 z2 w2).mono fun e W' ⟨he, bel⟩ => ?_
  subst he
  exact ⟨_, rfl, _, _, _, [], _, [], hW', trodAll_mk1 (shut_bool Try.underlying4 _), (trodAll_cons_mk (Below.trod laidOut (by kernel_rfl) (of_decide_eq_true (by kernel_rfl)) k0 bel lt0) (trodAll_cons_mk (Below.trod laidOut (by kernel_rfl) (of_decide_eq_true (by kernel_rfl)) k1 bel lt1) (trodAll_cons_mk (Below.trod laidOut (by kernel_rfl) (of_decide_eq_true (by kernel_rfl)) k2 bel lt2) trodAll_mk0))), rfl, bel.frame _, fun h => by cases h⟩
set_option maxRecDepth 100000 in
theorem lifted (os : Os) (started : os.Started) (H : Type) (enc : TypeId × Value → H) :
    ReturnsInHanded {} Try.checked os 5 .any (Rows.matrixSolvesSpec.pre6 enc Try.prog Try.f5 Rows.matrixSolvesRow.domain false) (Rows.matrixSolvesSpec.post enc Try.prog Try.f5 false true false false) := by
  refine returnsInHanded_of_change (C := Try.checked) own started (by kernel_rfl) Try.func5
    (ChangeSpec.witness6 (enc := enc) (C := Try.checked) false ⟨#[], #[.slice none 0 0, .int .i64 0, .slice none 0 0], []⟩ 8 (by kernel_rfl) (by kernel_rfl) (by kernel_rfl) (by kernel_rfl)) ?_
  intro W base args ds gs before hval hW _ _
  exact contract H enc W base args ds gs before hval hW
theorem over : Rows.matrixSolvesRow.holds Try.pinned (OpenSpec.ofChange Rows.matrixSolvesSpec) :=
  OpenClaim.holds_of_wide 5 Try.f5 rfl rfl rfl rfl rfl rfl rfl ⟨rfl, rfl, rfl, rfl, rfl⟩ rfl rfl rfl rfl rfl (by kernel_rfl) Try.func5 (by kernel_rfl)
    (of_decide_eq_true (by kernel_rfl)) (by unfold Func.isWrapper; first | (rw [if_pos (by decide +kernel)]; kernel_rfl) | (rw [if_neg (by decide +kernel)]; exact ⟨rfl, rfl⟩))
    (fun os started H enc _ => lifted os started H enc)
/-- THE STATEMENT. -/
theorem proved : Rows.MatrixSolvesSaid := over
end matrixSolves
end Go.Proofs.Ytebpaafofombaaa
