/-
  ClientBegins holds for every numbers, caller and call: the program and the reference answer the same caller, message and error.
-/
import Derived.Test.YtmamdnikjfmenaaClB5
import Derived.Test.YtmamdnikjfmenaaClB6
namespace Go.Proofs.Ytmamdnikjfmenaa
open Go.RowKit
open Go.WideShapes Go.ChangeShapes
set_option linter.unusedVariables false
set_option maxRecDepth 100000 in
theorem walk_ClientBegins {H : Type} {enc : TypeId × Value → H} {base : Nat} (W : World) (a0 : Int) (w0 : (Lit.int .u64 a0).wf = true) (A : Option Addr) (n cap : Nat) (z : List Int) (h : Ints .i64 W A n cap z) (s : n * 8 ≤ 140737488351232) (a2 : Int) (w2 : (Lit.int .i64 a2).wf = true) (a3 : Int) (w3 : (Lit.int .i64 a3).wf = true)
    (v : Value) (d : DataW H) (p : List MemPlace) (hd : DataW.Trod enc Try.prog W 0 (fun _ => true) true 40 v d p) (hok : Value.okWide Try.prog W .any base 40 v) (hs : (d.weights Try.prog 40).all (· ≤ reachBytes) = true)
    (a5 : Int) (w5 : (Lit.int .i64 a5).wf = true) (key : ByteArray) (hkey : key.size ≤ maxLen) (E : Option Addr) (em ec : Nat) (zs : List Int) (he : Ints .u8 W E em ec zs) (se : em * 1 ≤ 140737488351232) :
    Calls Try.prog 5 #[.int .u64 a0, .slice A n cap, .int .i64 a2, .int .i64 a3, v, .int .i64 a5, .string key, .slice E em ec] W (Yes W) := by
  obtain ⟨c, cn, N, nc, m, D, dc, rfl, hc⟩ := cal_in hok hd
  have hw : 0 ≤ a0 ∧ a0 ≤ 18446744073709551615 := by simpa [Lit.wf, IntKind.min, IntKind.max, IntKind.signed, IntKind.bits] using w0
  obtain ⟨id, rfl⟩ : ∃ k : Nat, a0 = (k : Int) := ⟨a0.toNat, by omega⟩
  obtain ⟨data, hb, hl, hr, -, -⟩ := he.bytes
  exact begins_ok W id A n cap z a2 a3 c cn N nc m D dc a5 key E em ec data (by omega) h.2.2.1 (Lib.hid h.1) (by omega) hc hl (Lib.hid hr) hb (by omega) hkey
namespace clientBegins
open Go.ChangeShapes Go.WideShapes Go.ChangeAt Go.RowKit
open Go.ChangeMaps (open_string shut_string)
set_option linter.unusedVariables false
theorem own : ownKnob Try.prog.godebug = none := by kernel_rfl
theorem laidOut : laidOutB Try.prog = true := by kernel_rfl
set_option maxRecDepth 100000 in
theorem contract (H : Type) (enc : TypeId × Value → H) (W : World) (base : Nat) (args : Array Value) (ds gs : List (DataW H)) (before : List MemPlace)
    (hval0 : ∀ (j : Nat) t v, Try.f5.params[j]? = some t → args[j]? = some v → Value.okWide Try.prog W .any base t v)
    (hW : DataW.Whole enc Try.prog Try.f5.params.toList Rows.clientBeginsSpec.vars false W args.toList ds gs before) (hsz : (DataW.weightsEach Try.prog (Try.f5.params.toList ++ Rows.clientBeginsSpec.plain.varTypes Try.prog) (ds ++ gs)).all (· ≤ reachBytes) = true) :
    Calls Try.prog 5 args W fun e W' => ∃ v, e = .returned v ∧ Rows.clientBeginsSpec.post enc Try.prog Try.f5 false true false false W args v W' := by
  have hval : ∀ (j : Nat) t v, Try.f5.params[j]? = some t → args[j]? = some v → Value.okWide Try.prog W .any base t v := hval0
  have hW' := hW
  obtain ⟨p, q, hA0, hV, rfl, hfz, hnd⟩ := hW
  have hA : DataW.TrodAll enc Try.prog W 0 (fun _ => true) true Try.f5.params.toList args.toList ds p := hA0
  rw [Try.params5] at hA hval
  obtain ⟨v0, vs0, d0, ds0, p0, q0, hargs, rfl, rfl, h0, r0⟩ := trodAll_cons hA
  obtain ⟨v1, vs1, d1, ds1, p1, q1, rfl, rfl, rfl, h1, r1⟩ := trodAll_cons r0
  obtain ⟨v2, vs2, d2, ds2, p2, q2, rfl, rfl, rfl, h2, r2⟩ := trodAll_cons r1
  obtain ⟨v3, vs3, d3, ds3, p3, q3, rfl, rfl, rfl, h3, r3⟩ := trodAll_cons r2
  obtain ⟨v4, vs4, d4, ds4, p4, q4, rfl, rfl, rfl, h4, r4⟩ := trodAll_cons r3
  obtain ⟨v5, vs5, d5, ds5, p5, q5, rfl, rfl, rfl, h5, r5⟩ := trodAll_cons r4
  obtain ⟨v6, vs6, d6, ds6, p6, q6, rfl, rfl, rfl, h6, r6⟩ := trodAll_cons r5
  obtain ⟨v7, vs7, d7, ds7, p7, q7, rfl, rfl, rfl, h7, r7⟩ := trodAll_cons r6
  obtain ⟨rfl, rfl, rfl⟩ := trodAll_nil r7
  obtain rfl : args = #[v0, v1, v2, v3, v4, v5, v6, v7] := by cases args; simp_all
  obtain ⟨rfl, rfl⟩ := trodVars_none hV
  have k0 := h0
  have lt0 : ∀ x ∈ p0, x.block < W.heap.size := by obtain ⟨m, hm⟩ := k0; exact DataW.trod_lt m _ _ _ hm
  have k1 := h1
  have lt1 : ∀ x ∈ p1, x.block < W.heap.size := by obtain ⟨m, hm⟩ := k1; exact DataW.trod_lt m _ _ _ hm
  have k2 := h2
  have lt2 : ∀ x ∈ p2, x.block < W.heap.size := by obtain ⟨m, hm⟩ := k2; exact DataW.trod_lt m _ _ _ hm
  have k3 := h3
  have lt3 : ∀ x ∈ p3, x.block < W.heap.size := by obtain ⟨m, hm⟩ := k3; exact DataW.trod_lt m _ _ _ hm
  have k4 := h4
  have lt4 : ∀ x ∈ p4, x.block < W.heap.size := by obtain ⟨m, hm⟩ := k4; exact DataW.trod_lt m _ _ _ hm
  have k5 := h5
  have lt5 : ∀ x ∈ p5, x.block < W.heap.size := by obtain ⟨m, hm⟩ := k5; exact DataW.trod_lt m _ _ _ hm
  have k6 := h6
  have lt6 : ∀ x ∈ p6, x.block < W.heap.size := by obtain ⟨m, hm⟩ := k6; exact DataW.trod_lt m _ _ _ hm
  have k7 := h7
  have lt7 : ∀ x ∈ p7, x.block < W.heap.size := by obtain ⟨m, hm⟩ := k7; exact DataW.trod_lt m _ _ _ hm
  obtain ⟨a0, rfl, rfl, rfl, w0⟩ := open_int Try.underlying23 (hval 0 23 v0 rfl rfl) h0
  obtain ⟨A1, len1, cap1, rfl⟩ := okWide_slice Try.underlying25 (hval 1 25 v1 rfl rfl)
  obtain ⟨z1, w1⟩ := open_in_ints Try.underlying25 Try.underlying3 (by kernel_rfl) h1
  have s1 := ints_reach (b := 8) Try.underlying25 Try.underlying3 (by kernel_rfl) h1 (fun el sr hd => by have := sized_slice hsz (j := 1) (t := 25) (e := 3) (elems := el) (spare := sr) rfl (by subst hd; rfl) Try.underlying25; rwa [show Try.prog.bytesOf 3 = 8 from by kernel_rfl] at this)
  obtain ⟨a2, rfl, rfl, rfl, w2⟩ := open_int Try.underlying3 (hval 2 3 v2 rfl rfl) h2
  obtain ⟨a3, rfl, rfl, rfl, w3⟩ := open_int Try.underlying3 (hval 3 3 v3 rfl rfl) h3
  have s4 : (d4.weights Try.prog 40).all (· ≤ reachBytes) = true := List.all_eq_true.2 fun k hk => List.all_eq_true.1 hsz k (DataW.weights_mem_each (j := 4) (t := 40) (d := d4) rfl rfl k hk)
  obtain ⟨a5, rfl, rfl, rfl, w5⟩ := open_int Try.underlying34 (hval 5 34 v5 rfl rfl) h5
  obtain ⟨a6, rfl, rfl, rfl, w6⟩ := open_string Try.underlying9 (hval 6 9 v6 rfl rfl) h6
  obtain ⟨A7, len7, cap7, rfl⟩ := okWide_slice Try.underlying33 (hval 7 33 v7 rfl rfl)
  obtain ⟨z7, w7⟩ := open_in_ints Try.underlying33 Try.underlying5 (by kernel_rfl) h7
  have s7 := ints_reach (b := 1) Try.underlying33 Try.underlying5 (by kernel_rfl) h7 (fun el sr hd => by have := sized_slice hsz (j := 7) (t := 33) (e := 5) (elems := el) (spare := sr) rfl (by subst hd; rfl) Try.underlying33; rwa [show Try.prog.bytesOf 5 = 1 from by kernel_rfl] at this)
  clear hA0 hval0
  refine (walk_ClientBegins W a0 w0 A1 len1 cap1 z1 w1 s1 a2 w2 a3 w3 v4 d4 p4 h4 (hval 4 40 v4 rfl rfl) s4 a5 w5 a6 w6 A7 len7 cap7 z7 w7 s7).mono fun e W' ⟨he, bel⟩ => ?_
  subst he
  exact ⟨_, rfl, _, _, _, [], _, [], hW', trodAll_mk1 (shut_bool Try.underlying4 _), (trodAll_cons_mk (Below.trod laidOut (by kernel_rfl) (of_decide_eq_true (by kernel_rfl)) k0 bel lt0) (trodAll_cons_mk (Below.trod laidOut (by kernel_rfl) (of_decide_eq_true (by kernel_rfl)) k1 bel lt1) (trodAll_cons_mk (Below.trod laidOut (by kernel_rfl) (of_decide_eq_true (by kernel_rfl)) k2 bel lt2) (trodAll_cons_mk (Below.trod laidOut (by kernel_rfl) (of_decide_eq_true (by kernel_rfl)) k3 bel lt3) (trodAll_cons_mk (Below.trod laidOut (by kernel_rfl) (of_decide_eq_true (by kernel_rfl)) k4 bel lt4) (trodAll_cons_mk (Below.trod laidOut (by kernel_rfl) (of_decide_eq_true (by kernel_rfl)) k5 bel lt5) (trodAll_cons_mk (Below.trod laidOut (by kernel_rfl) (of_decide_eq_true (by kernel_rfl)) k6 bel lt6) (trodAll_cons_mk (Below.trod laidOut (by kernel_rfl) (of_decide_eq_true (by kernel_rfl)) k7 bel lt7) trodAll_mk0)))))))), rfl, bel.frame _, fun h => by cases h⟩
set_option maxRecDepth 100000 in
theorem lifted (os : Os) (started : os.Started) (H : Type) (enc : TypeId × Value → H) :
    ReturnsInHanded {} Try.checked os 5 .any (Rows.clientBeginsSpec.pre6 enc Try.prog Try.f5 Rows.clientBeginsRow.domain false) (Rows.clientBeginsSpec.post enc Try.prog Try.f5 false true false false) := by
  refine returnsInHanded_of_change_sized (C := Try.checked) own started (by kernel_rfl) Try.func5
    (ChangeSpec.witness6 (enc := enc) (C := Try.checked) false ⟨#[], #[.int .u64 0, .slice none 0 0, .int .i64 0, .int .i64 0, .agg #[.int .u64 0, .slice none 0 0, .int .i64 0, .int .i64 0, .int .u64 0, .bool false, .int .i64 0, .string ⟨#[]⟩, .slice none 0 0, .int .i64 0, .int .i64 0, .int .i64 0], .int .i64 0, .string ⟨#[]⟩, .slice none 0 0], []⟩ 8 (by kernel_rfl) (by kernel_rfl) (by kernel_rfl) (by kernel_rfl)) ?_
  intro W base args ds gs before hval hW _ hsz _
  exact contract H enc W base args ds gs before hval hW hsz
theorem over : Rows.clientBeginsRow.holds Try.pinned (OpenSpec.ofChange Rows.clientBeginsSpec) :=
  OpenClaim.holds_of_wide 5 Try.f5 rfl rfl rfl rfl rfl rfl rfl ⟨rfl, rfl, rfl, rfl, rfl⟩ rfl rfl rfl rfl rfl (by kernel_rfl) Try.func5 (by kernel_rfl)
    (of_decide_eq_true (by kernel_rfl)) (by unfold Func.isWrapper; first | (rw [if_pos (by decide +kernel)]; kernel_rfl) | (rw [if_neg (by decide +kernel)]; exact ⟨rfl, rfl⟩))
    (fun os started H enc _ => lifted os started H enc)
/-- THE STATEMENT. -/
theorem proved : Rows.ClientBeginsSaid := over
end clientBegins
end Go.Proofs.Ytmamdnikjfmenaa
