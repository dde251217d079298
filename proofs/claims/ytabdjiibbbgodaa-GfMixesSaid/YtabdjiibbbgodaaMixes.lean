/-
  GfMixes holds for every two rows of bytes and every element: what polynomials are at an element, and what a multiple adds; what is handed in stays. (Each slice takes at most 2^47 - 4096 bytes, as every row of the form says.)
-/
import Derived.Test.YtabdjiibbbgodaaW9
namespace Go.Proofs.Ytabdjiibbbgodaa
open Go.RowKit GfMath
theorem mixl_byt {xs ys : List Nat} {c : Nat} (hx : Byt xs) (hy : Byt ys) : Byt (mixl xs ys c) := by
  intro z hz
  unfold mixl at hz
  obtain ⟨i, hi, rfl⟩ := List.getElem_of_mem hz
  rw [List.getElem_zipWith]
  simp at hi
  exact xor_lt (hx.get (by omega)) (gmul_lt (hy.get (by omega)))
/-- What the two Mixes answer, in one form. -/
def RetX (xs ys : List Nat) (c : Nat) (w : World) (e : Ending) (w' : World) : Prop :=
  ∃ (A : Option Addr) (n cap : Nat) (zs : List Nat) (k : Int), e = .returned (.tuple #[.slice A n cap, .int .i64 k]) ∧ Reads w' w'.heap.size 1 A n (zs.map bv) ∧ Below w.heap.size w w' ∧
    zs = (if xs.length = ys.length then mixl xs ys c else []) ∧ k = if xs.length = ys.length then 0 else 2
theorem mix_any (A B : Option Addr) (cap cap' : Nat) (xs ys : List Nat) (c : Nat) (w : World) (hx : Byt xs) (hy : Byt ys) (hc : c < 256)
    (hr : Reads w w.heap.size 1 A xs.length (xs.map bv)) (hr' : Reads w w.heap.size 1 B ys.length (ys.map bv)) (hm : xs.length ≤ 140737488351232) (hm' : ys.length ≤ 140737488351232) :
    Calls Try.prog 22 #[.slice A xs.length cap, .slice B ys.length cap', .int .u8 c] w (RetX xs ys c w) := by
  by_cases h : xs.length = ys.length
  · have hr2 : Reads w w.heap.size 1 B xs.length (ys.map bv) := by rw [h]; exact hr'
    rw [← h]
    refine (mix_ok A B cap cap' xs.length xs ys c w hx hy hc rfl h.symm hr hr2 hm).mono ?_
    rintro e w' ⟨v, rfl, ho, hb⟩
    obtain ⟨A', c', rfl, _, _⟩ := own_slice ho
    exact ⟨A', _, c', _, _, rfl, Reads.of_own ho, hb, (if_pos h).symm, (if_pos h).symm⟩
  · refine (mix_bad A B cap cap' xs.length ys.length c w h (by unfold maxLen; omega) (by unfold maxLen; omega)).mono ?_
    rintro e w' ⟨rfl, rfl⟩
    exact ⟨none, 0, 0, [], 2, rfl, Reads.none_, Below.refl _ _, (if_neg h).symm, (if_neg h).symm⟩
theorem rmix_any (A B : Option Addr) (cap cap' : Nat) (xs ys : List Nat) (c : Nat) (w : World) (hx : Byt xs) (hy : Byt ys) (hc : c < 256)
    (hr : Reads w w.heap.size 1 A xs.length (xs.map bv)) (hr' : Reads w w.heap.size 1 B ys.length (ys.map bv)) (hm : xs.length ≤ 140737488351232) (hm' : ys.length ≤ 140737488351232) :
    Calls Try.prog 23 #[.slice A xs.length cap, .slice B ys.length cap', .int .u8 c] w (RetX xs ys c w) := by
  by_cases h : xs.length = ys.length
  · have hr2 : Reads w w.heap.size 1 B xs.length (ys.map bv) := by rw [h]; exact hr'
    rw [← h]
    refine (rmix_ok A B cap cap' xs.length xs ys c w hx hy hc rfl h.symm hr hr2 hm).mono ?_
    rintro e w' ⟨v, rfl, ho, hb⟩
    obtain ⟨A', c', rfl, _, _⟩ := own_slice ho
    exact ⟨A', _, c', _, _, rfl, Reads.of_own ho, hb, (if_pos h).symm, (if_pos h).symm⟩
  · refine (rmix_bad A B cap cap' xs.length ys.length c w h (by unfold maxLen; omega) (by unfold maxLen; omega)).mono ?_
    rintro e w' ⟨rfl, rfl⟩
    exact ⟨none, 0, 0, [], 2, rfl, Reads.none_, Below.refl _ _, (if_neg h).symm, (if_neg h).symm⟩
set_option maxRecDepth 100000 in
set_option maxHeartbeats 2000000 in
theorem mixes_any (A B : Option Addr) (cap cap' : Nat) (xs ys : List Nat) (c : Nat) (w : World) (hx : Byt xs) (hy : Byt ys) (hc : c < 256)
    (hr : Reads w w.heap.size 1 A xs.length (xs.map bv)) (hr' : Reads w w.heap.size 1 B ys.length (ys.map bv)) (hm : xs.length ≤ 140737488351232) (hm' : ys.length ≤ 140737488351232) :
    Calls Try.prog 8 #[.slice A xs.length cap, .slice B ys.length cap', .int .u8 c] w fun e w' => e = .returned (.bool true) ∧ Below w.heap.size w w' := by
  have HR := Lib.hid hr
  have HR' := Lib.hid hr'
  clear hr hr'
  go_enter Try.func8, Try.ntmps8
  go_wp2_with (fail)
  refine (copy_any A cap xs _ HR.out hm).mono ?_
  rintro e w1 h1
  obtain ⟨A1, c1, rfl, hr1, _, _, hb1, _⟩ := h1.open
  rw [List.length_map] at hr1 ⊢
  have HR1 := Lib.hid hr1
  clear h1 hr1
  go_wp2_with (fail)
  refine (copy_any B cap' ys _ (HR'.out.later hb1) hm').mono ?_
  rintro e w2 h2
  obtain ⟨B1, c2, rfl, hr2, _, _, hb2, _⟩ := h2.open
  rw [List.length_map] at hr2 ⊢
  have HR2 := Lib.hid hr2
  clear h2 hr2
  go_wp2_with (fail)
  have hr1' := HR1.out.later hb2
  refine (mix_any A1 B1 c1 c2 xs ys c _ hx hy hc hr1' HR2.out hm hm').mono ?_
  rintro e w3 ⟨A3, n3, c3, zs, k, rfl, hr3, hb3, ezs, ek⟩
  have HR3 := Lib.hid hr3
  have EZ := Lib.hid ezs
  have EK := Lib.hid ek
  clear hr3 ezs ek hr1'
  go_wp2_with (fail)
  refine (rmix_any A B cap cap' xs ys c _ hx hy hc (((HR.out.later hb1).later hb2).later hb3) (((HR'.out.later hb1).later hb2).later hb3) hm hm').mono ?_
  rintro e w4 ⟨A4, n4, c4, zs', k', rfl, hr4, hb4, ezs', ek'⟩
  obtain rfl : zs = zs' := EZ.out.trans ezs'.symm
  obtain rfl : k = k' := EK.out.trans ek'.symm
  have hz : Byt zs := by
    rw [ezs']; split
    · exact mixl_byt hx hy
    · intro x hx; simp at hx
  have HR4 := Lib.hid hr4
  clear hr4 ezs' ek' EZ EK
  go_wp2_with (fail)
  refine (same_any A3 A4 c3 c4 n3 n4 zs zs _ hz hz (HR3.out.later hb4) HR4.out).mono ?_
  rintro e w' ⟨rfl, rfl⟩
  go_wp2_with (fail)
  refine (same_any A1 A c1 cap _ _ xs xs _ hx hx (((HR1.out.later hb2).later hb3).later hb4) ((((HR.out.later hb1).later hb2).later hb3).later hb4)).mono ?_
  rintro e w' ⟨rfl, rfl⟩
  go_wp2_with (fail)
  refine (same_any B1 B c2 cap' _ _ ys ys _ hy hy ((HR2.out.later hb3).later hb4) ((((HR'.out.later hb1).later hb2).later hb3).later hb4)).mono ?_
  rintro e w' ⟨rfl, rfl⟩
  go_wp2_with (fail)
  have hrA := (((HR.out.later hb1).later hb2).later hb3).later hb4
  refine (eval_any A cap xs c _ hx hc hrA (by unfold maxLen; omega)).mono ?_
  rintro e w' ⟨rfl, rfl⟩
  go_wp2_with (fail)
  refine (reval_any A cap xs c _ hx hc hrA (by unfold maxLen; omega)).mono ?_
  rintro e w' ⟨rfl, d, rfl⟩
  clear hrA
  go_wp2_with (go_at_call 11; refine (heads_any _).mono ?_; rintro e wg ⟨rfl, hg1⟩)
  go_ret
  have h4 := bel_trans hb1 (bel_trans hb2 (bel_trans hb3 hb4))
  exact ⟨rfl, bel_trans (bel_drewN h4 d) hg1⟩
theorem walk_GfMixes (W : World) (A : Option Addr) (n cap : Nat) (z : List Int) (h : Ints .u8 W A n cap z) (s : n * 1 ≤ 140737488351232) (B : Option Addr) (m cap' : Nat) (z' : List Int) (h' : Ints .u8 W B m cap' z') (s' : m * 1 ≤ 140737488351232) (a : Int) (wa : (Lit.int .u8 a).wf = true) :
    Calls Try.prog 8 #[.slice A n cap, .slice B m cap', .int .u8 a] W fun e w' => e = .returned (.bool true) ∧ Below W.heap.size W w' := by
  obtain ⟨c, rfl, hc⟩ := u8_of wa
  obtain ⟨xs, hx, rfl, hr, _, _⟩ := h.bytes
  obtain ⟨ys, hy, rfl, hr', _, _⟩ := h'.bytes
  exact mixes_any A B cap cap' xs ys c W hx hy hc hr hr' (by omega) (by omega)
namespace gfMixes
open Go.ChangeShapes Go.WideShapes Go.ChangeAt Go.RowKit
open Go.ChangeMaps (open_string shut_string)
set_option linter.unusedVariables false
theorem own : ownKnob Try.prog.godebug = none := by kernel_rfl
theorem laidOut : laidOutB Try.prog = true := by kernel_rfl
set_option maxRecDepth 100000 in
theorem contract (H : Type) (enc : TypeId × Value → H) (W : World) (base : Nat) (args : Array Value) (ds gs : List (DataW H)) (before : List MemPlace)
    (hval0 : ∀ (j : Nat) t v, Try.f8.params[j]? = some t → args[j]? = some v → Value.okWide Try.prog W .any base t v)
    (hW : DataW.Whole enc Try.prog Try.f8.params.toList Rows.gfMixesSpec.vars false W args.toList ds gs before) (hsz : (DataW.weightsEach Try.prog (Try.f8.params.toList ++ Rows.gfMixesSpec.plain.varTypes Try.prog) (ds ++ gs)).all (· ≤ reachBytes) = true) :
    Calls Try.prog 8 args W fun e W' => ∃ v, e = .returned v ∧ Rows.gfMixesSpec.post enc Try.prog Try.f8 false true false false W args v W' := by
  have hval : ∀ (j : Nat) t v, Try.f8.params[j]? = some t → args[j]? = some v → Value.okWide Try.prog W .any base t v := hval0
  have hW' := hW
  obtain ⟨p, q, hA0, hV, rfl, hfz, hnd⟩ := hW
  have hA : DataW.TrodAll enc Try.prog W 0 (fun _ => true) true Try.f8.params.toList args.toList ds p := hA0
  rw [Try.params8] at hA hval
  obtain ⟨v0, vs0, d0, ds0, p0, q0, hargs, rfl, rfl, h0, r0⟩ := trodAll_cons hA
  obtain ⟨v1, vs1, d1, ds1, p1, q1, rfl, rfl, rfl, h1, r1⟩ := trodAll_cons r0
  obtain ⟨v2, vs2, d2, ds2, p2, q2, rfl, rfl, rfl, h2, r2⟩ := trodAll_cons r1
  obtain ⟨rfl, rfl, rfl⟩ := trodAll_nil r2
  obtain rfl : args = #[v0, v1, v2] := by cases args; simp_all
  obtain ⟨rfl, rfl⟩ := trodVars_none hV
  have k0 := h0
  have lt0 : ∀ x ∈ p0, x.block < W.heap.size := by obtain ⟨m, hm⟩ := k0; exact DataW.trod_lt m _ _ _ hm
  have k1 := h1
  have lt1 : ∀ x ∈ p1, x.block < W.heap.size := by obtain ⟨m, hm⟩ := k1; exact DataW.trod_lt m _ _ _ hm
  have k2 := h2
  have lt2 : ∀ x ∈ p2, x.block < W.heap.size := by obtain ⟨m, hm⟩ := k2; exact DataW.trod_lt m _ _ _ hm
  obtain ⟨A0, len0, cap0, rfl⟩ := okWide_slice Try.underlying32 (hval 0 32 v0 rfl rfl)
  obtain ⟨z0, w0⟩ := open_in_ints Try.underlying32 Try.underlying5 (by kernel_rfl) h0
  have s0 := ints_reach (b := 1) Try.underlying32 Try.underlying5 (by kernel_rfl) h0 (fun el sr hd => by have := sized_slice hsz (j := 0) (t := 32) (e := 5) (elems := el) (spare := sr) rfl (by subst hd; rfl) Try.underlying32; rwa [show Try.prog.bytesOf 5 = 1 from by kernel_rfl] at this)
  obtain ⟨A1, len1, cap1, rfl⟩ := okWide_slice Try.underlying32 (hval 1 32 v1 rfl rfl)
  obtain ⟨z1, w1⟩ := open_in_ints Try.underlying32 Try.underlying5 (by kernel_rfl) h1
  have s1 := ints_reach (b := 1) Try.underlying32 Try.underlying5 (by kernel_rfl) h1 (fun el sr hd => by have := sized_slice hsz (j := 1) (t := 32) (e := 5) (elems := el) (spare := sr) rfl (by subst hd; rfl) Try.underlying32; rwa [show Try.prog.bytesOf 5 = 1 from by kernel_rfl] at this)
  obtain ⟨a2, rfl, rfl, rfl, w2⟩ := open_int Try.underlying5 (hval 2 5 v2 rfl rfl) h2
  clear hA0 hval0
  refine (walk_GfMixes W A0 len0 cap0 z0 w0 s0 A1 len1 cap1 z1 w1 s1 a2 w2).mono fun e W' ⟨he, bel⟩ => ?_
  subst he
  exact ⟨_, rfl, _, _, _, [], _, [], hW', trodAll_mk1 (shut_bool Try.underlying4 _), (trodAll_cons_mk (Below.trod laidOut (by kernel_rfl) (of_decide_eq_true (by kernel_rfl)) k0 bel lt0) (trodAll_cons_mk (Below.trod laidOut (by kernel_rfl) (of_decide_eq_true (by kernel_rfl)) k1 bel lt1) (trodAll_cons_mk (Below.trod laidOut (by kernel_rfl) (of_decide_eq_true (by kernel_rfl)) k2 bel lt2) trodAll_mk0))), rfl, bel.frame _, fun h => by cases h⟩
set_option maxRecDepth 100000 in
theorem lifted (os : Os) (started : os.Started) (H : Type) (enc : TypeId × Value → H) :
    ReturnsInHanded {} Try.checked os 8 .any (Rows.gfMixesSpec.pre6 enc Try.prog Try.f8 Rows.gfMixesRow.domain false) (Rows.gfMixesSpec.post enc Try.prog Try.f8 false true false false) := by
  refine returnsInHanded_of_change_sized (C := Try.checked) own started (by kernel_rfl) Try.func8
    (ChangeSpec.witness6 (enc := enc) (C := Try.checked) false ⟨#[], #[.slice none 0 0, .slice none 0 0, .int .u8 0], []⟩ 8 (by kernel_rfl) (by kernel_rfl) (by kernel_rfl) (by kernel_rfl)) ?_
  intro W base args ds gs before hval hW _ hsz _
  exact contract H enc W base args ds gs before hval hW hsz
theorem over : Rows.gfMixesRow.holds Try.pinned (OpenSpec.ofChange Rows.gfMixesSpec) :=
  OpenClaim.holds_of_wide 8 Try.f8 rfl rfl rfl rfl rfl rfl rfl ⟨rfl, rfl, rfl, rfl, rfl⟩ rfl rfl rfl rfl rfl (by kernel_rfl) Try.func8 (by kernel_rfl)
    (of_decide_eq_true (by kernel_rfl)) (by unfold Func.isWrapper; first | (rw [if_pos (by decide +kernel)]; kernel_rfl) | (rw [if_neg (by decide +kernel)]; exact ⟨rfl, rfl⟩))
    (fun os started H enc _ => lifted os started H enc)
/-- THE STATEMENT. -/
theorem proved : Rows.GfMixesSaid := over
end gfMixes
end Go.Proofs.Ytabdjiibbbgodaa
