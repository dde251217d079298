/-
  MatrixTurns holds for every two matrices, or what is none, and every column: products, inverses and ranks are the same in the program and in the reference; what is handed in stays.
-/
import Derived.Test.YtebpaafofombaaaMxT7
namespace Go.Proofs.Ytebpaafofombaaa
open Go.RowKit
open Go.WideShapes Go.ChangeShapes
set_option linter.unusedVariables false
set_option maxRecDepth 100000 in
theorem walk_MatrixTurns {H : Type} {enc : TypeId × Value → H} {base : Nat} (W : World)
    (v : Value) (d : DataW H) (p : List MemPlace) (h : DataW.Trod enc Try.prog W 0 (fun _ => true) true 24 v d p) (hok : Value.okWide Try.prog W .any base 24 v) (hs : (d.weights Try.prog 24).all (· ≤ reachBytes) = true)
    (v' : Value) (d' : DataW H) (p' : List MemPlace) (h' : DataW.Trod enc Try.prog W 0 (fun _ => true) true 24 v' d' p') (hok' : Value.okWide Try.prog W .any base 24 v') (hs' : (d'.weights Try.prog 24).all (· ≤ reachBytes) = true)
    (V : Option Addr) (m cv : Nat) (zs : List Int) (hz : Ints .u8 W V m cv zs) (sz : m * 1 ≤ 140737488351232) :
    Calls Try.prog 8 #[v, v', .slice V m cv] W (Yes W) := by
  obtain ⟨A, n, cap, rfl⟩ := okWide_slice Try.underlying24 hok
  obtain ⟨A', cap', ls, e, hA, fA⟩ := open_mat_s rfl h hs
  obtain ⟨B, k, bcap, rfl⟩ := okWide_slice Try.underlying24 hok'
  obtain ⟨B', bcap', ks, e', hB, fB⟩ := open_mat_s rfl h' hs'
  obtain ⟨vs, hvb, hm, hr, -, -⟩ := hz.bytes
  rw [e, e']
  exact turns_ok W A' B' V cap' bcap' m cv ls ks vs hA hB fA fB hr hvb hm
namespace matrixTurns
open Go.ChangeShapes Go.WideShapes Go.ChangeAt Go.RowKit
open Go.ChangeMaps (open_string shut_string)
set_option linter.unusedVariables false
theorem own : ownKnob Try.prog.godebug = none := by kernel_rfl
theorem laidOut : laidOutB Try.prog = true := by kernel_rfl
set_option maxRecDepth 100000 in
theorem contract (H : Type) (enc : TypeId × Value → H) (W : World) (base : Nat) (args : Array Value) (ds gs : List (DataW H)) (before : List MemPlace)
    (hval0 : ∀ (j : Nat) t v, Try.f8.params[j]? = some t → args[j]? = some v → Value.okWide Try.prog W .any base t v)
    (hW : DataW.Whole enc Try.prog Try.f8.params.toList Rows.matrixTurnsSpec.vars false W args.toList ds gs before) (hsz : (DataW.weightsEach Try.prog (Try.f8.params.toList ++ Rows.matrixTurnsSpec.plain.varTypes Try.prog) (ds ++ gs)).all (· ≤ reachBytes) = true) :
    Calls Try.prog 8 args W fun e W' => ∃ v, e = .returned v ∧ Rows.matrixTurnsSpec.post enc Try.prog Try.f8 false true false false W args v W' := by
  have hval : ∀ (j : Nat) t v, Try.f8.params[j]? = some t → args[j]? = some v → Value.okWide Try.prog W .any base t v := hval0
  have hW' := hW
  obtain ⟨p, q, hA0, hV, rfl, hfz, hnd⟩ := hW
  have hA : DataW.TrodAll enc Try.prog W 0 (fun _ => true) true Try.f8.params.toList args.toList ds p := hA0
  rw [Try.params8] at hA hval
  obtain ⟨v0, vs0, d0, ds0, p0, q0, hargs, rfl, rfl, h0, r0⟩ := trodAll_cons hA
  obtain ⟨v1, vs1, d1, ds1, p1, q1, rfl, rfl, rfl, h1, r1⟩ := trodAll_cons r0
  obtain ⟨v2, vs2, d2, ds2, p2, q2, rfl, rfl, rfl, h2, r2⟩ := trodAll_cons r1
  obtain ⟨rfl, rfl, rfl⟩ := trodAll_nil r2
  obtain rfl : args = #[v0, v1, v2] := by cases args; simp_all
  obtain ⟨rfl, rfl⟩ := trodVars_none hV
  have k0 := h0
  have lt0 : ∀ x ∈ p0, x.block < W.heap.size := by obtain ⟨m, hm⟩ := k0; exact DataW.trod_lt m _ _ _ hm
  have k1 := h1
  have lt1 : ∀ x ∈ p1, x.block < W.heap.size := by obtain ⟨m, hm⟩ := k1; exact DataW.trod_lt m _ _ _ hm
  have k2 := h2
  have lt2 : ∀ x ∈ p2, x.block < W.heap.size := by obtain ⟨m, hm⟩ := k2; exact DataW.trod_lt m _ _ _ hm
  have s0 : (d0.weights Try.prog 24).all (· ≤ reachBytes) = true := List.all_eq_true.2 fun k hk => List.all_eq_true.1 hsz k (DataW.weights_mem_each (j := 0) (t := 24) (d := d0) rfl rfl k hk)
  have s1 : (d1.weights Try.prog 24).all (· ≤ reachBytes) = true := List.all_eq_true.2 fun k hk => List.all_eq_true.1 hsz k (DataW.weights_mem_each (j := 1) (t := 24) (d := d1) rfl rfl k hk)
  obtain ⟨A2, len2, cap2, rfl⟩ := okWide_slice Try.underlying22 (hval 2 22 v2 rfl rfl)
  obtain ⟨z2, w2⟩ := open_in_ints Try.underlying22 Try.underlying5 (by kernel_rfl) h2
  have s2 := ints_reach (b := 1) Try.underlying22 Try.underlying5 (by kernel_rfl) h2 (fun el sr hd => by have := sized_slice hsz (j := 2) (t := 22) (e := 5) (elems := el) (spare := sr) rfl (by subst hd; rfl) Try.underlying22; rwa [show Try.prog.bytesOf 5 = 1 from by kernel_rfl] at this)
  clear hA0 hval0
  refine (walk_MatrixTurns W v0 d0 p0 h0 (hval 0 24 v0 rfl rfl) s0 v1 d1 p1 h1 (hval 1 24 v1 rfl rfl) s1 A2 len2 cap2 z2 w2 s2).mono fun e W' ⟨he, bel⟩ => ?_
  subst he
  exact ⟨_, rfl, _, _, _, [], _, [], hW', trodAll_mk1 (shut_bool Try.underlying4 _), (trodAll_cons_mk (Below.trod laidOut (by kernel_rfl) (of_decide_eq_true (by kernel_rfl)) k0 bel lt0) (trodAll_cons_mk (Below.trod laidOut (by kernel_rfl) (of_decide_eq_true (by kernel_rfl)) k1 bel lt1) (trodAll_cons_mk (Below.trod laidOut (by kernel_rfl) (of_decide_eq_true (by kernel_rfl)) k2 bel lt2) trodAll_mk0))), rfl, bel.frame _, fun h => by cases h⟩
set_option maxRecDepth 100000 in
theorem lifted (os : Os) (started : os.Started) (H : Type) (enc : TypeId × Value → H) :
    ReturnsInHanded {} Try.checked os 8 .any (Rows.matrixTurnsSpec.pre6 enc Try.prog Try.f8 Rows.matrixTurnsRow.domain false) (Rows.matrixTurnsSpec.post enc Try.prog Try.f8 false true false false) := by
  refine returnsInHanded_of_change_sized (C := Try.checked) own started (by kernel_rfl) Try.func8
    (ChangeSpec.witness6 (enc := enc) (C := Try.checked) false ⟨#[], #[.slice none 0 0, .slice none 0 0, .slice none 0 0], []⟩ 8 (by kernel_rfl) (by kernel_rfl) (by kernel_rfl) (by kernel_rfl)) ?_
  intro W base args ds gs before hval hW _ hsz _
  exact contract H enc W base args ds gs before hval hW hsz
theorem over : Rows.matrixTurnsRow.holds Try.pinned (OpenSpec.ofChange Rows.matrixTurnsSpec) :=
  OpenClaim.holds_of_wide 8 Try.f8 rfl rfl rfl rfl rfl rfl rfl ⟨rfl, rfl, rfl, rfl, rfl⟩ rfl rfl rfl rfl rfl (by kernel_rfl) Try.func8 (by kernel_rfl)
    (of_decide_eq_true (by kernel_rfl)) (by unfold Func.isWrapper; first | (rw [if_pos (by decide +kernel)]; kernel_rfl) | (rw [if_neg (by decide +kernel)]; exact ⟨rfl, rfl⟩))
    (fun os started H enc _ => lifted os started H enc)
/-- THE STATEMENT. -/
theorem proved : Rows.MatrixTurnsSaid := over
end matrixTurns
end Go.Proofs.Ytebpaafofombaaa
