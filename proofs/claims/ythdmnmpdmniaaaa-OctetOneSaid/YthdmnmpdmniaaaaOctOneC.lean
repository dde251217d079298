/-
  The walk of OctetOne where a number can be read, but no bytes; the law.
-/
import Derived.Test.YthdmnmpdmniaaaaOctOneA
import Derived.Test.YthdmnmpdmniaaaaOctOneB
namespace Go.Proofs.Ythdmnmpdmniaaaa
open Go.RowKit OctMath
set_option linter.unusedVariables false
set_option maxRecDepth 100000 in
set_option maxHeartbeats 16000000 in
theorem one_nb (A : Option Addr) (cap n : Nat) (at_ : Int) (bs : List Nat) (w : World) (hb : Byt bs) (hn : bs.length = n) (hr : Reads w w.heap.size 1 A n (bs.map bv)) (hc : n ≤ cap) (hm : cap ≤ maxLen) (hn2 : n ≤ 140737488351232) (E0 : (rdN bs at_).2.2 = 0) (F0 : (rdB bs at_ n).2.2 ≠ 0) :
    Calls Try.prog 5 #[.slice A n cap, .int .i64 at_] w fun e w' => e = .returned (.bool true) ∧ Below w.heap.size w w' := by
  obtain ⟨l1, l2, l3⟩ := rdN_lt bs at_ hb
  obtain ⟨k, rfl, e1, e2, e3⟩ := rdN_one bs at_ hb E0
  have hb0 : ∀ W, Reads W W.heap.size 1 A n (bs.map bv) → Calls Try.prog 14 #[.slice A n cap, .int .i64 (k : Int), .int .i64 (n : Int)] W (RetB3 (rdB bs k n) W) := fun W h => bytes_any A cap n (k : Int) (n : Int) bs W hb hn h hc hm hn2 (by omega)
  have hi0 : ∀ W, Reads W W.heap.size 1 A n (bs.map bv) → Calls Try.prog 16 #[.slice A n cap, .int .i64 (k : Int)] W fun e w' => e = .returned (.tuple #[.int .i64 (unz (rdN bs k).1), .int .i64 (rdN bs k).2.1, .int .i64 (rdN bs k).2.2]) ∧ W = w' := fun W h => int_any A cap n (k : Int) bs W hb hn h hc hm
  have HN := Lib.hid (number_any A cap n (k : Int) bs w hb hn hr hc hm)
  have g0 := zz_unz (rdN bs k).1
  have g1 : -9223372036854775808 ≤ unz (rdN bs k).1 ∧ unz (rdN bs k).1 ≤ 9223372036854775807 := by unfold unz; split <;> omega
  obtain ⟨V, eV⟩ : ∃ V, (rdN bs k).1 = V := ⟨_, rfl⟩
  obtain ⟨R, eR⟩ : ∃ R, rdB bs k n = R := ⟨_, rfl⟩
  obtain ⟨xs, Q, F⟩ := R
  rw [eV] at e1
  rw [eV, e1, E0] at HN hi0
  rw [eV] at e2 e3 g0 g1 l1
  rw [eR] at hb0 F0
  have HB := Lib.hid hb0
  have HI := Lib.hid hi0
  simp only at F0
  obtain ⟨p, ep⟩ : ∃ p, k + (putN V).length = p := ⟨_, rfl⟩
  rw [ep] at HN HI e2
  have hp0 := putN_pos V
  have hpl : (putN V).length = p - k := by omega
  have hkp : k < p := by omega
  rw [hpl] at e3
  have E3 := Lib.hid e3
  have HR := Lib.hid hr
  obtain ⟨A2, s1, s2⟩ := slice_mid Try.underlying22 Try.infoU8 hr k p (by omega) (by omega) hc
  rw [e3] at s2
  have S2 := Lib.hid s2
  clear ep eV eR e1 E0 hr hi0 hb0 l2 l3 e3 s2 hp0
  have Hpl := Lib.hid hpl
  clear hpl
  obtain ⟨vs, evs⟩ : ∃ vs, putN V = vs := ⟨_, rfl⟩
  have hvb : Byt vs := by rw [← evs]; exact putN_byt _
  rw [evs] at E3 S2 Hpl
  have EVS := Lib.hid evs
  clear evs
  have d1 : decide (p ≤ k) = false := decide_eq_false (by omega)
  have d2 : decide (n < p) = false := decide_eq_false (by omega)
  have d5 : decide ((p : Int) ≤ (k : Int)) = false := decide_eq_false (by omega)
  have d6 : decide ((n : Int) < (p : Int)) = false := decide_eq_false (by omega)
  have d3 : ((F : Int) == 0) = false := by simpa using F0
  have d4 : (F == 0) = false := by simpa using F0
  go_enter Try.func5, Try.ntmps5
  go_wp2_with fail
  refine HN.out.mono ?_
  rintro e w' ⟨rfl, rfl⟩
  go_wp2_with fail
  go_region_held3 (fun w' => True) (first | exact True.intro | fail) (first
    | (go_at_call 13; refine (putnum_any none 0 0 V [] _ Reads.none_ (by simp) (by omega) (by omega)).mono ?_; intro e wa ha; obtain ⟨A5, c5, rfl, hr5, -, -, hb5, -⟩ := ha.open; rw [List.nil_append, EVS.out] at hr5; rw [List.nil_append, EVS.out, List.length_map]; rw [List.length_map] at hr5; have HR5 := Lib.hid hr5; have hb6 : Below w.heap.size w wa := undrew hb5; clear hr5 ha hb5)
    | (go_at_call 12; refine (same_any A5 A2 c5 _ _ _ vs vs _ hvb hvb HR5.out ((S2.out _ (HR.out.below hb6)).more hb6.size)).mono ?_; rintro e w' ⟨rfl, rfl⟩))
  go_wp2_with fail
  refine (HB.out _ ((HR.out.below hb6).more hb6.size)).mono ?_
  rintro e wb ⟨A7, n7, c7, rfl, hr7, hc7, hm7, hb7⟩
  have hb8 : Below w.heap.size w wb := hb6.trans (hb7.mono hb6.size)
  clear hr7 hb7 hb6 hc7 hm7
  go_wp2_with fail
  go_quiet (fail)
  go_wp2_with fail
  have hb10 : Below w.heap.size w (wb.drewN nq) := bel_drewN hb8 _
  revert hb10
  generalize wb.drewN nq = wr
  intro hb10
  clear hb8
  refine (HI.out _ ((HR.out.below hb10).more hb10.size)).mono ?_
  rintro e w' ⟨rfl, rfl⟩
  go_wp2_with fail
  go_region_held3 (fun w' => True) (first | exact True.intro | fail) (first
    | (go_at_call 17; refine (putint_any none 0 0 (unz V) [] _ Reads.none_ (by simp) g1.1 g1.2 (by omega)).mono ?_; intro e wd hdd; obtain ⟨A11, c11, rfl, hr11, -, -, hb11, -⟩ := hdd.open; rw [List.nil_append, g0, EVS.out] at hr11; rw [List.nil_append, g0, EVS.out, List.length_map]; rw [List.length_map] at hr11; have HR11 := Lib.hid hr11; have hb12 : Below w.heap.size w wd := hb10.trans ((undrew hb11).mono hb10.size); clear hr11 hdd hb11)
    | (go_at_call 12; refine (same_any A11 A2 c11 _ _ _ vs vs _ hvb hvb HR11.out ((S2.out _ (HR.out.below hb12)).more hb12.size)).mono ?_; rintro e w' ⟨rfl, rfl⟩)
    | (go_at_call 8; refine (heads_any _).mono ?_; rintro e we ⟨rfl, he⟩))
  go_wp2
  go_ret
  exact ⟨rfl, hb12.trans (he.mono hb12.size)⟩
theorem walk_OctetOne (W : World) (A : Option Addr) (n cap : Nat) (z : List Int) (h : Ints .u8 W A n cap z) (s : n * 1 ≤ 140737488351232) (at_ : Int) (wa : Lit.wf (.int .i64 at_)) :
    Calls Try.prog 5 #[.slice A n cap, .int .i64 at_] W fun e w' => e = .returned (.bool true) ∧ Below W.heap.size W w' := by
  obtain ⟨xs, hx, hl, hr, hc, hm⟩ := h.bytes
  by_cases E0 : (rdN xs at_).2.2 = 0
  · by_cases F0 : (rdB xs at_ n).2.2 = 0
    · exact one_any A cap n at_ xs W hx hl hr hc hm (by omega) E0 F0
    · exact one_nb A cap n at_ xs W hx hl hr hc hm (by omega) E0 F0
  · exact one_none A cap n at_ xs W hx hl hr hc hm (by omega) E0
namespace octetOne
open Go.ChangeShapes Go.WideShapes Go.ChangeAt Go.RowKit
open Go.ChangeMaps (open_string shut_string)
set_option linter.unusedVariables false
theorem own : ownKnob Try.prog.godebug = none := by kernel_rfl
theorem laidOut : laidOutB Try.prog = true := by kernel_rfl
set_option maxRecDepth 100000 in
theorem contract (H : Type) (enc : TypeId × Value → H) (W : World) (base : Nat) (args : Array Value) (ds gs : List (DataW H)) (before : List MemPlace)
    (hval0 : ∀ (j : Nat) t v, Try.f5.params[j]? = some t → args[j]? = some v → Value.okWide Try.prog W .any base t v)
    (hW : DataW.Whole enc Try.prog Try.f5.params.toList Rows.octetOneSpec.vars false W args.toList ds gs before) (hsz : (DataW.weightsEach Try.prog (Try.f5.params.toList ++ Rows.octetOneSpec.plain.varTypes Try.prog) (ds ++ gs)).all (· ≤ reachBytes) = true) :
    Calls Try.prog 5 args W fun e W' => ∃ v, e = .returned v ∧ Rows.octetOneSpec.post enc Try.prog Try.f5 false true false false W args v W' := by
  have hval : ∀ (j : Nat) t v, Try.f5.params[j]? = some t → args[j]? = some v → Value.okWide Try.prog W .any base t v := hval0
  have hW' := hW
  obtain ⟨p, q, hA0, hV, rfl, hfz, hnd⟩ := hW
  have hA : DataW.TrodAll enc Try.prog W 0 (fun _ => true) true Try.f5.params.toList args.toList ds p := hA0
  rw [Try.params5] at hA hval
  obtain ⟨v0, vs0, d0, ds0, p0, q0, hargs, rfl, rfl, h0, r0⟩ := trodAll_cons hA
  obtain ⟨v1, vs1, d1, ds1, p1, q1, rfl, rfl, rfl, h1, r1⟩ := trodAll_cons r0
  obtain ⟨rfl, rfl, rfl⟩ := trodAll_nil r1
  obtain rfl : args = #[v0, v1] := by cases args; simp_all
  obtain ⟨rfl, rfl⟩ := trodVars_none hV
  have k0 := h0
  have lt0 : ∀ x ∈ p0, x.block < W.heap.size := by obtain ⟨m, hm⟩ := k0; exact DataW.trod_lt m _ _ _ hm
  have k1 := h1
  have lt1 : ∀ x ∈ p1, x.block < W.heap.size := by obtain ⟨m, hm⟩ := k1; exact DataW.trod_lt m _ _ _ hm
  obtain ⟨A0, len0, cap0, rfl⟩ := okWide_slice Try.underlying22 (hval 0 22 v0 rfl rfl)
  obtain ⟨z0, w0⟩ := open_in_ints Try.underlying22 Try.underlying5 (by kernel_rfl) h0
  have s0 := ints_reach (b := 1) Try.underlying22 Try.underlying5 (by kernel_rfl) h0 (fun el sr hd => by have := sized_slice hsz (j := 0) (t := 22) (e := 5) (elems := el) (spare := sr) rfl (by subst hd; rfl) Try.underlying22; rwa [show Try.prog.bytesOf 5 = 1 from by kernel_rfl] at this)
  obtain ⟨a1, rfl, rfl, rfl, w1⟩ := open_int Try.underlying3 (hval 1 3 v1 rfl rfl) h1
  clear hA0 hval0
  refine (walk_OctetOne W A0 len0 cap0 z0 w0 s0 a1 w1).mono fun e W' ⟨he, bel⟩ => ?_
  subst he
  exact ⟨_, rfl, _, _, _, [], _, [], hW', trodAll_mk1 (shut_bool Try.underlying4 _), (trodAll_cons_mk (Below.trod laidOut (by kernel_rfl) (of_decide_eq_true (by kernel_rfl)) k0 bel lt0) (trodAll_cons_mk (Below.trod laidOut (by kernel_rfl) (of_decide_eq_true (by kernel_rfl)) k1 bel lt1) trodAll_mk0)), rfl, bel.frame _, fun h => by cases h⟩
set_option maxRecDepth 100000 in
theorem lifted (os : Os) (started : os.Started) (H : Type) (enc : TypeId × Value → H) :
    ReturnsInHanded {} Try.checked os 5 .any (Rows.octetOneSpec.pre6 enc Try.prog Try.f5 Rows.octetOneRow.domain false) (Rows.octetOneSpec.post enc Try.prog Try.f5 false true false false) := by
  refine returnsInHanded_of_change_sized (C := Try.checked) own started (by kernel_rfl) Try.func5
    (ChangeSpec.witness6 (enc := enc) (C := Try.checked) false ⟨#[], #[.slice none 0 0, .int .i64 0], []⟩ 8 (by kernel_rfl) (by kernel_rfl) (by kernel_rfl) (by kernel_rfl)) ?_
  intro W base args ds gs before hval hW _ hsz _
  exact contract H enc W base args ds gs before hval hW hsz
theorem over : Rows.octetOneRow.holds Try.pinned (OpenSpec.ofChange Rows.octetOneSpec) :=
  OpenClaim.holds_of_wide 5 Try.f5 rfl rfl rfl rfl rfl rfl rfl ⟨rfl, rfl, rfl, rfl, rfl⟩ rfl rfl rfl rfl rfl (by kernel_rfl) Try.func5 (by kernel_rfl)
    (of_decide_eq_true (by kernel_rfl)) (by unfold Func.isWrapper; first | (rw [if_pos (by decide +kernel)]; kernel_rfl) | (rw [if_neg (by decide +kernel)]; exact ⟨rfl, rfl⟩))
    (fun os started H enc _ => lifted os started H enc)
/-- THE STATEMENT. -/
theorem proved : Rows.OctetOneSaid := over
end octetOne
end Go.Proofs.Ythdmnmpdmniaaaa
