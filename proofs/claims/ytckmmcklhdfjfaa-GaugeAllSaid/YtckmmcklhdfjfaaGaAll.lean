/-
  GaugeAll holds for every numbers: an order has each place once, and numbers do not fall along it.
-/
import Derived.Test.YtckmmcklhdfjfaaGaS8
namespace Go.Proofs.Ytckmmcklhdfjfaa
open Go.RowKit
open Go.WideShapes Go.ChangeShapes Go.Deep
set_option linter.unusedVariables false
theorem flts_reach {H : Type} {enc : TypeId × Value → H} {P : Program} {t e : TypeId} {w : World} {base : Nat} {sp : Nat → Bool} {held : Bool} {A : Option Addr} {len cap : Nat} {d : DataW H} {ps : List MemPlace}
    (ht : P.underlying t = some (.slice e)) (he : P.underlying e = some (.float .f64)) (hc : P.cellsOf e = 1) (h : DataW.Trod enc P w base sp held t (.slice A len cap) d ps)
    (hsz : ∀ el sr : List (DataW H), d = .slice el sr → (el.length + sr.length) * 8 ≤ reachBytes) : len * 8 ≤ 140737488351232 := by
  obtain ⟨fuel, hf⟩ := h
  rcases open_slice1 (cs := [.slice A len cap]) ht hc (by simpa [Value.cells] using hf) with ⟨e0, _⟩ | ⟨a, len', cap', m, n, V, D, Pl, e0, hb, hl, hm, hmm, hx0, hx⟩
  · injection e0 with e0
    injection e0 with e1 e2 e3
    omega
  · injection e0 with e0
    injection e0 with e1 e2 e3
    have hlm : len' ≤ m := by rw [hmm]; split <;> omega
    have hd := congrArg Prod.fst hx0
    have := hsz _ _ hd
    simp only [List.length_map, List.length_range] at this
    unfold reachBytes at this
    omega
theorem walk_GaugeAll (W : World) (A : Option Addr) (n cap : Nat) (l : List Nat) (h : Flts W A n cap l) (s : n * 8 ≤ 140737488351232) :
    Calls Try.prog 4 #[.slice A n cap] W fun e w' => e = .returned (.bool true) ∧ Below W.heap.size W w' :=
  gall_any A n cap l W (Lib.hid h.1) (Lib.hid h.2.1) (by omega)
namespace gaugeAll
open Go.ChangeShapes Go.WideShapes Go.ChangeAt Go.RowKit
open Go.ChangeMaps (open_string shut_string)
set_option linter.unusedVariables false
theorem own : ownKnob Try.prog.godebug = none := by kernel_rfl
theorem laidOut : laidOutB Try.prog = true := by kernel_rfl
set_option maxRecDepth 100000 in
theorem contract (H : Type) (enc : TypeId × Value → H) (W : World) (base : Nat) (args : Array Value) (ds gs : List (DataW H)) (before : List MemPlace)
    (hval0 : ∀ (j : Nat) t v, Try.f4.params[j]? = some t → args[j]? = some v → Value.okWide Try.prog W .any base t v)
    (hW : DataW.Whole enc Try.prog Try.f4.params.toList Rows.gaugeAllSpec.vars false W args.toList ds gs before) (hsz : (DataW.weightsEach Try.prog (Try.f4.params.toList ++ Rows.gaugeAllSpec.plain.varTypes Try.prog) (ds ++ gs)).all (· ≤ reachBytes) = true) :
    Calls Try.prog 4 args W fun e W' => ∃ v, e = .returned v ∧ Rows.gaugeAllSpec.post enc Try.prog Try.f4 false true false false W args v W' := by
  have hval : ∀ (j : Nat) t v, Try.f4.params[j]? = some t → args[j]? = some v → Value.okWide Try.prog W .any base t v := hval0
  have hW' := hW
  obtain ⟨p, q, hA0, hV, rfl, hfz, hnd⟩ := hW
  have hA : DataW.TrodAll enc Try.prog W 0 (fun _ => true) true Try.f4.params.toList args.toList ds p := hA0
  rw [Try.params4] at hA hval
  obtain ⟨v0, vs0, d0, ds0, p0, q0, hargs, rfl, rfl, h0, r0⟩ := trodAll_cons hA
  obtain ⟨rfl, rfl, rfl⟩ := trodAll_nil r0
  obtain rfl : args = #[v0] := by cases args; simp_all
  obtain ⟨rfl, rfl⟩ := trodVars_none hV
  have k0 := h0
  have lt0 : ∀ x ∈ p0, x.block < W.heap.size := by obtain ⟨m, hm⟩ := k0; exact DataW.trod_lt m _ _ _ hm
  obtain ⟨A0, len0, cap0, rfl⟩ := okWide_slice Try.underlying22 (hval 0 22 v0 rfl rfl)
  obtain ⟨z0, w0⟩ := open_in_flts Try.underlying22 Try.underlying23 (by kernel_rfl) h0
  have s0 := flts_reach Try.underlying22 Try.underlying23 (by kernel_rfl) h0 (fun el sr hd => by have := sized_slice hsz (j := 0) (t := 22) (e := 23) (elems := el) (spare := sr) rfl (by subst hd; rfl) Try.underlying22; rwa [show Try.prog.bytesOf 23 = 8 from by kernel_rfl] at this)
  clear hA0 hval0
  refine (walk_GaugeAll W A0 len0 cap0 z0 w0 s0).mono fun e W' ⟨he, bel⟩ => ?_
  subst he
  exact ⟨_, rfl, _, _, _, [], _, [], hW', trodAll_mk1 (shut_bool Try.underlying4 _), (trodAll_cons_mk (Below.trod laidOut (by kernel_rfl) (of_decide_eq_true (by kernel_rfl)) k0 bel lt0) trodAll_mk0), rfl, bel.frame _, fun h => by cases h⟩
set_option maxRecDepth 100000 in
theorem lifted (os : Os) (started : os.Started) (H : Type) (enc : TypeId × Value → H) :
    ReturnsInHanded {} Try.checked os 4 .any (Rows.gaugeAllSpec.pre6 enc Try.prog Try.f4 Rows.gaugeAllRow.domain false) (Rows.gaugeAllSpec.post enc Try.prog Try.f4 false true false false) := by
  refine returnsInHanded_of_change_sized (C := Try.checked) own started (by kernel_rfl) Try.func4
    (ChangeSpec.witness6 (enc := enc) (C := Try.checked) false ⟨#[], #[.slice none 0 0], []⟩ 8 (by kernel_rfl) (by kernel_rfl) (by kernel_rfl) (by kernel_rfl)) ?_
  intro W base args ds gs before hval hW _ hsz _
  exact contract H enc W base args ds gs before hval hW hsz
theorem over : Rows.gaugeAllRow.holds Try.pinned (OpenSpec.ofChange Rows.gaugeAllSpec) :=
  OpenClaim.holds_of_wide 4 Try.f4 rfl rfl rfl rfl rfl rfl rfl ⟨rfl, rfl, rfl, rfl, rfl⟩ rfl rfl rfl rfl rfl (by kernel_rfl) Try.func4 (by kernel_rfl)
    (of_decide_eq_true (by kernel_rfl)) (by unfold Func.isWrapper; first | (rw [if_pos (by decide +kernel)]; kernel_rfl) | (rw [if_neg (by decide +kernel)]; exact ⟨rfl, rfl⟩))
    (fun os started H enc _ => lifted os started H enc)
/-- THE STATEMENT. -/
theorem proved : Rows.GaugeAllSaid := over
end gaugeAll
end Go.Proofs.Ytckmmcklhdfjfaa
