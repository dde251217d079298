/-
  MatrixInverts holds for every row of bytes and number: the inverse undoes the matrix, from both sides.
-/
import Derived.Test.YtebpaafofombaaaMxW19
namespace Go.Proofs.Ytebpaafofombaaa
open Go.RowKit GfMath MxMath
set_option linter.unusedVariables false
def Yes (W : World) (e : Ending) (w' : World) : Prop := e = .returned (.bool true) ∧ Below W.heap.size W w'
set_option maxRecDepth 100000 in
set_option maxHeartbeats 1000000 in
theorem inverts_else (A : Option Addr) (len cap : Nat) (a : Int) (W : World) (h : a < 1 ∨ 12 < a) : Calls Try.prog 3 #[.slice A len cap, .int .i64 a] W (Yes W) := by
  rcases h with h | h
  · go_enter Try.func3, Try.ntmps3
    go_wp2_with (go_at_call 9; refine (heads_true _).mono ?_; rintro e w1 ⟨rfl, hb⟩; have HB := Lib.hid hb; clear hb)
    go_ret
    exact ⟨rfl, HB.out⟩
  · have h' : ¬ a < 1 := by omega
    go_enter Try.func3, Try.ntmps3
    go_wp2_with (go_at_call 9; refine (heads_true _).mono ?_; rintro e w1 ⟨rfl, hb⟩; have HB := Lib.hid hb; clear hb)
    go_ret
    exact ⟨rfl, HB.out⟩
theorem samem_bel (A B : Option Addr) (ca cb n m : Nat) (ls ks : List (List Nat)) (w : World) (HA : Hid (InM w A ca ls)) (HB : Hid (InM w B cb ks)) (hl : ls.length = n) (hk : ks.length = m) :
    Calls Try.prog 15 #[.slice A n ca, .slice B m cb] w fun e w' => e = .returned (.bool (decide (ls = ks))) ∧ Below w.heap.size w w' :=
  (samem_any A B ca cb n m ls ks w HA HB hl hk).mono fun e w' ⟨he, d, hw⟩ => ⟨he, hw ▸ bel_drewN (Below.refl _ _) d⟩
theorem same_true {ls : List (List Nat)} : decide (ls = ls) = true := decide_eq_true rfl
set_option maxRecDepth 100000 in
set_option maxHeartbeats 2000000 in
theorem inverts_not (A : Option Addr) (len cap n : Nat) (xs : List Nat) (W : World) (hx : Byt xs) (hl : xs.length = len) (HA : Hid (Reads W W.heap.size 1 A len (xs.map bv))) (hm : len ≤ maxLen) (n0 : 0 < n) (n1 : n ≤ 12) (hr : rankN n n (sqM xs n) ≠ n) :
    Calls Try.prog 3 #[.slice A len cap, .int .i64 n] W (Yes W) := by
  have BB := Lib.hid (Below.refl W.heap.size W)
  have HL := Lib.hid hl
  have HX := Lib.hid hx
  obtain ⟨M, hM⟩ : ∃ M, sqM xs n = M := ⟨_, rfl⟩
  rw [hM] at hr
  have HM := Lib.hid hM
  have HR := Lib.hid hr
  have e1 : ((rankN n n M : Int) == (n : Int)) = false := by simp; omega
  have e2 : decide ((rankN n n M : Int) = (n : Int)) = false := decide_eq_false (by omega)
  have e3 : (rankN n n M == n) = false := by simp; omega
  have e4 : decide (rankN n n M = n) = false := decide_eq_false (by omega)
  clear hM hr hl hx
  go_enter Try.func3, Try.ntmps3
  go_wp2_with (first
    | (go_at_call 10; refine (square_any A cap len n xs _ HX.out HL.out HA (by omega) hm).mono ?_; rintro e w1 ⟨v1, rfl, h1⟩; rw [HM.out] at h1; obtain ⟨A1, c1, rfl, i1⟩ := own_mat h1.own; have I1 := Lib.hid i1; have hb := h1.bel;  have BB := Lib.hid (bel_trans BB.out hb); clear h1 i1 hb)
    | (go_at_call 11; refine (identity_ok n _ n0 (by omega)).mono ?_; rintro e w2 ⟨v2, rfl, h2⟩; obtain ⟨A2, c2, rfl, i2⟩ := own_mat h2.own; have I2 := Lib.hid i2; have hb := h2.bel; have I1 := Lib.hid (I1.out.later hb); have BB := Lib.hid (bel_trans BB.out hb); clear h2 i2 hb)
    | (go_at_call 12; refine (invert_not _ _ n M _ I1 n0 (by omega) HR.out).mono ?_; rintro e w3 ⟨rfl, hb⟩; have I1 := Lib.hid (I1.out.later hb); have I2 := Lib.hid (I2.out.later hb); have BB := Lib.hid (bel_trans BB.out hb); clear hb)
    | (go_at_call 13; refine (rank_any _ _ n n M _ I1 n0 (by omega) n0 (by omega)).mono ?_; rintro e w4 ⟨rfl, hb⟩; have I1 := Lib.hid (I1.out.later hb); have I2 := Lib.hid (I2.out.later hb); have BB := Lib.hid (bel_trans BB.out hb); clear hb)
    | (go_at_call 9; refine (heads_true _).mono ?_; rintro e w5 ⟨rfl, hb⟩; have I1 := Lib.hid (I1.out.later hb); have I2 := Lib.hid (I2.out.later hb); have BB := Lib.hid (bel_trans BB.out hb); clear hb))
  go_ret
  exact ⟨rfl, BB.out⟩
set_option maxRecDepth 100000 in
set_option maxHeartbeats 2000000 in
theorem inverts_ok (A : Option Addr) (len cap n : Nat) (xs : List Nat) (W : World) (hx : Byt xs) (hl : xs.length = len) (HA : Hid (Reads W W.heap.size 1 A len (xs.map bv))) (hm : len ≤ maxLen) (n0 : 0 < n) (n1 : n ≤ 12) (hr : rankN n n (sqM xs n) = n) :
    Calls Try.prog 3 #[.slice A len cap, .int .i64 n] W (Yes W) := by
  have BB := Lib.hid (Below.refl W.heap.size W)
  have HL := Lib.hid hl
  have HX := Lib.hid hx
  obtain ⟨M, hM⟩ : ∃ M, sqM xs n = M := ⟨_, rfl⟩
  rw [hM] at hr
  have HM := Lib.hid hM
  have HR := Lib.hid hr
  have HI := Lib.hid (inv_both hr)
  have HII := Lib.hid (inv_inv hr)
  have K1 : Hid (lmat n n (mm n M (invM n M)) = lmat n n dl) := Lib.hid (lmat_congr HI.out.2)
  have K2 : Hid (lmat n n (mm n (invM n M) M) = lmat n n dl) := Lib.hid (lmat_congr HI.out.1)
  have K3 : Hid (lmat n n (invM n (invM n M)) = lmat n n M) := Lib.hid (lmat_congr HII.out.2)
  clear hM hr hl hx
  have tok1 : True := trivial
  have tok2 : True := trivial
  have tok3 : True := trivial
  have tok4 : True := trivial
  have e1 : ((n : Int) == (n : Int)) = true := by simp
  go_enter Try.func3, Try.ntmps3
  go_wp2_with (first
    | (go_at_call 10; refine (square_any A cap len n xs _ HX.out HL.out HA (by omega) hm).mono ?_; rintro e w1 ⟨v1, rfl, h1⟩; rw [HM.out] at h1; obtain ⟨A1, c1, rfl, i1⟩ := own_mat h1.own; have I1 := Lib.hid i1; have hb := h1.bel;  have BB := Lib.hid (bel_trans BB.out hb); clear h1 i1 hb)
    | (go_at_call 11; refine (identity_ok n _ n0 (by omega)).mono ?_; rintro e w2 ⟨v2, rfl, h2⟩; obtain ⟨A2, c2, rfl, i2⟩ := own_mat h2.own; have I2 := Lib.hid i2; have hb := h2.bel; have I1 := Lib.hid (I1.out.later hb); have BB := Lib.hid (bel_trans BB.out hb); clear h2 i2 hb)
    | (go_at_call 12; have _t := tok1; refine (invert_ok _ _ n M _ I1 n0 (by omega) HR.out).mono ?_; rintro e w3 ⟨v3, rfl, h3⟩; clear tok1 _t; obtain ⟨A3, c3, rfl, i3⟩ := own_mat h3.own; have I3 := Lib.hid i3; have hb := h3.bel; have I1 := Lib.hid (I1.out.later hb); have I2 := Lib.hid (I2.out.later hb); have BB := Lib.hid (bel_trans BB.out hb); clear h3 i3 hb)
    | (go_at_call 12; refine (invert_ok _ _ n (invM n M) _ I3 n0 (by omega) HII.out.1).mono ?_; rintro e w6 ⟨v6, rfl, h6⟩; rw [K3.out] at h6; obtain ⟨A6, c6, rfl, i6⟩ := own_mat h6.own; have I6 := Lib.hid i6; have hb := h6.bel; have I1 := Lib.hid (I1.out.later hb); have I2 := Lib.hid (I2.out.later hb); have I3 := Lib.hid (I3.out.later hb); have I4 := Lib.hid (I4.out.later hb); have I5 := Lib.hid (I5.out.later hb); have BB := Lib.hid (bel_trans BB.out hb); clear h6 i6 hb)
    | (go_at_call 13; refine (rank_any _ _ n n M _ I1 n0 (by omega) n0 (by omega)).mono ?_; rintro e w9 ⟨rfl, hb⟩; rw [HR.out]; have I1 := Lib.hid (I1.out.later hb); have I2 := Lib.hid (I2.out.later hb); have I3 := Lib.hid (I3.out.later hb); have BB := Lib.hid (bel_trans BB.out hb); clear hb)
    | (go_at_call 14; have _t := tok2; refine (mul_ok _ _ _ _ n n n M (invM n M) _ I1 I3 n0 (by omega) n0 (by omega) n0 (by omega)).mono ?_; rintro e w4 ⟨v4, rfl, h4⟩; rw [K1.out] at h4; clear tok2 _t; obtain ⟨A4, c4, rfl, i4⟩ := own_mat h4.own; have I4 := Lib.hid i4; have hb := h4.bel; have I1 := Lib.hid (I1.out.later hb); have I2 := Lib.hid (I2.out.later hb); have I3 := Lib.hid (I3.out.later hb); have BB := Lib.hid (bel_trans BB.out hb); clear h4 i4 hb)
    | (go_at_call 14; refine (mul_ok _ _ _ _ n n n (invM n M) M _ I3 I1 n0 (by omega) n0 (by omega) n0 (by omega)).mono ?_; rintro e w5 ⟨v5, rfl, h5⟩; rw [K2.out] at h5; obtain ⟨A5, c5, rfl, i5⟩ := own_mat h5.own; have I5 := Lib.hid i5; have hb := h5.bel; have I1 := Lib.hid (I1.out.later hb); have I2 := Lib.hid (I2.out.later hb); have I3 := Lib.hid (I3.out.later hb); have I4 := Lib.hid (I4.out.later hb); have BB := Lib.hid (bel_trans BB.out hb); clear h5 i5 hb)
    | (go_at_call 15; have _t := tok3; refine (samem_bel _ _ _ _ n n _ _ _ I4 I2 (by rw [lmat_len]) (by rw [lmat_len])).mono ?_; rintro e w7 ⟨rfl, hb⟩; rw [same_true]; clear tok3 _t; have I1 := Lib.hid (I1.out.later hb); have I2 := Lib.hid (I2.out.later hb); have I5 := Lib.hid (I5.out.later hb); have I6 := Lib.hid (I6.out.later hb); have BB := Lib.hid (bel_trans BB.out hb); clear hb)
    | (go_at_call 15; have _t := tok4; refine (samem_bel _ _ _ _ n n _ _ _ I5 I2 (by rw [lmat_len]) (by rw [lmat_len])).mono ?_; rintro e w10 ⟨rfl, hb⟩; rw [same_true]; clear tok4 _t; have I1 := Lib.hid (I1.out.later hb); have I6 := Lib.hid (I6.out.later hb); have BB := Lib.hid (bel_trans BB.out hb); clear hb)
    | (go_at_call 15; refine (samem_bel _ _ _ _ n n _ _ _ I6 I1 (by rw [lmat_len]) (by rw [lmat_len])).mono ?_; rintro e w11 ⟨rfl, hb⟩; rw [same_true]; have I1 := Lib.hid (I1.out.later hb); have BB := Lib.hid (bel_trans BB.out hb); clear hb)
    | (go_at_call 9; refine (heads_true _).mono ?_; rintro e w8 ⟨rfl, hb⟩; have BB := Lib.hid (bel_trans BB.out hb); clear hb))
  go_ret
  exact ⟨rfl, BB.out⟩
theorem walk_MatrixInverts (W : World) (A : Option Addr) (len cap : Nat) (z : List Int) (h : Ints .u8 W A len cap z) (a : Int) (wa : (Lit.int .i64 a).wf = true) :
    Calls Try.prog 3 #[.slice A len cap, .int .i64 a] W (Yes W) := by
  obtain ⟨xs, hx, hl, hr, h1, h2⟩ := h.bytes
  by_cases e : a < 1 ∨ 12 < a
  · exact inverts_else A len cap a W e
  · obtain ⟨n, rfl⟩ : ∃ n : Nat, a = (n : Int) := ⟨a.toNat, by omega⟩
    by_cases hk : rankN n n (sqM xs n) = n
    · exact inverts_ok A len cap n xs W hx hl (Lib.hid hr) (by omega) (by omega) (by omega) hk
    · exact inverts_not A len cap n xs W hx hl (Lib.hid hr) (by omega) (by omega) (by omega) hk
namespace matrixInverts
open Go.ChangeShapes Go.WideShapes Go.ChangeAt Go.RowKit
open Go.ChangeMaps (open_string shut_string)
set_option linter.unusedVariables false
theorem own : ownKnob Try.prog.godebug = none := by kernel_rfl
theorem laidOut : laidOutB Try.prog = true := by kernel_rfl
set_option maxRecDepth 100000 in
theorem contract (H : Type) (enc : TypeId × Value → H) (W : World) (base : Nat) (args : Array Value) (ds gs : List (DataW H)) (before : List MemPlace)
    (hval0 : ∀ (j : Nat) t v, Try.f3.params[j]? = some t → args[j]? = some v → Value.okWide Try.prog W .any base t v)
    (hW : DataW.Whole enc Try.prog Try.f3.params.toList Rows.matrixInvertsSpec.vars false W args.toList ds gs before) :
    Calls Try.prog 3 args W fun e W' => ∃ v, e = .returned v ∧ Rows.matrixInvertsSpec.post enc Try.prog Try.f3 false true false false W args v W' := by
  have hval : ∀ (j : Nat) t v, Try.f3.params[j]? = some t → args[j]? = some v → Value.okWide Try.prog W .any base t v := hval0
  have hW' := hW
  obtain ⟨p, q, hA0, hV, rfl, hfz, hnd⟩ := hW
  have hA : DataW.TrodAll enc Try.prog W 0 (fun _ => true) true Try.f3.params.toList args.toList ds p := hA0
  rw [Try.params3] at hA hval
  obtain ⟨v0, vs0, d0, ds0, p0, q0, hargs, rfl, rfl, h0, r0⟩ := trodAll_cons hA
  obtain ⟨v1, vs1, d1, ds1, p1, q1, rfl, rfl, rfl, h1, r1⟩ := trodAll_cons r0
  obtain ⟨rfl, rfl, rfl⟩ := trodAll_nil r1
  obtain rfl : args = #[v0, v1] := by cases args; simp_all
  obtain ⟨rfl, rfl⟩ := trodVars_none hV
  have k0 := h0
  have lt0 : ∀ x ∈ p0, x.block < W.heap.size := by obtain ⟨m, hm⟩ := k0; exact DataW.trod_lt m _ _ _ hm
  have k1 := h1
  have lt1 : ∀ x ∈ p1, x.block < W.heap.size := by obtain ⟨m, hm⟩ := k1; exact DataW.trod_lt m _ _ _ hm
  obtain ⟨A0, len0, cap0, rfl⟩ := okWide_slice Try.underlying22 (hval 0 22 v0 rfl rfl)
  obtain ⟨z0, w0⟩ := open_in_ints Try.underlying22 Try.underlying5 (by kernel_rfl) h0
  obtain ⟨a1, rfl, rfl, rfl, w1⟩ := open_int Try.underlying3 (hval 1 3 v1 rfl rfl) h1
  clear hA0 hval0
  refine (walk_MatrixInverts W A0 len0 cap0 z0 w0 a1 w1).mono fun e W' ⟨he, bel⟩ => ?_
  subst he
  exact ⟨_, rfl, _, _, _, [], _, [], hW', trodAll_mk1 (shut_bool Try.underlying4 _), (trodAll_cons_mk (Below.trod laidOut (by kernel_rfl) (of_decide_eq_true (by kernel_rfl)) k0 bel lt0) (trodAll_cons_mk (Below.trod laidOut (by kernel_rfl) (of_decide_eq_true (by kernel_rfl)) k1 bel lt1) trodAll_mk0)), rfl, bel.frame _, fun h => by cases h⟩
set_option maxRecDepth 100000 in
theorem lifted (os : Os) (started : os.Started) (H : Type) (enc : TypeId × Value → H) :
    ReturnsInHanded {} Try.checked os 3 .any (Rows.matrixInvertsSpec.pre6 enc Try.prog Try.f3 Rows.matrixInvertsRow.domain false) (Rows.matrixInvertsSpec.post enc Try.prog Try.f3 false true false false) := by
  refine returnsInHanded_of_change (C := Try.checked) own started (by kernel_rfl) Try.func3
    (ChangeSpec.witness6 (enc := enc) (C := Try.checked) false ⟨#[], #[.slice none 0 0, .int .i64 0], []⟩ 8 (by kernel_rfl) (by kernel_rfl) (by kernel_rfl) (by kernel_rfl)) ?_
  intro W base args ds gs before hval hW _ _
  exact contract H enc W base args ds gs before hval hW
theorem over : Rows.matrixInvertsRow.holds Try.pinned (OpenSpec.ofChange Rows.matrixInvertsSpec) :=
  OpenClaim.holds_of_wide 3 Try.f3 rfl rfl rfl rfl rfl rfl rfl ⟨rfl, rfl, rfl, rfl, rfl⟩ rfl rfl rfl rfl rfl (by kernel_rfl) Try.func3 (by kernel_rfl)
    (of_decide_eq_true (by kernel_rfl)) (by unfold Func.isWrapper; first | (rw [if_pos (by decide +kernel)]; kernel_rfl) | (rw [if_neg (by decide +kernel)]; exact ⟨rfl, rfl⟩))
    (fun os started H enc _ => lifted os started H enc)
/-- THE STATEMENT. -/
theorem proved : Rows.MatrixInvertsSaid := over
end matrixInverts
end Go.Proofs.Ytebpaafofombaaa
