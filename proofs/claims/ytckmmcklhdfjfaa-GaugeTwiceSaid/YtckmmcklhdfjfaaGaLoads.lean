/-
  GaugeLoads holds for every map, counts and id: loads, skew and share are the same numbers in the program and in the reference.
-/
import Derived.Test.YtckmmcklhdfjfaaGaIn2
namespace Go.Proofs.Ytckmmcklhdfjfaa
open Go.RowKit
open Go.WideShapes Go.ChangeShapes
set_option linter.unusedVariables false
theorem Fs.reads {w wr : World} {cl : List (Option Nat)} {v : Value} {rs : List Nat} {n : Nat} (h : Fs w cl v rs wr) (hn : cl.length = n) : ∃ A cap, v = .slice A n cap ∧ Reads wr wr.heap.size 1 A n (rs.map fv) := by
  have ho := h.ap.own
  rw [List.length_map, h.len, hn] at ho
  obtain ⟨A, c, rfl, _, _⟩ := own_slice ho
  exact ⟨A, c, rfl, Reads.of_own ho⟩
set_option maxRecDepth 100000 in
set_option maxHeartbeats 4000000 in
theorem gloads_any (e : Nat) (A : Option Addr) (n cap : Nat) (ms : List Mem) (C : Option Addr) (m cc : Nat) (cs : List Int) (id : Int) (w : World) (HR : Hid (Reads w w.heap.size 2 A n (mcells ms))) (HC : Hid (Reads w w.heap.size 1 C m (cs.map iv)))
    (hl : Hid (ms.length = n)) (hcl : Hid (cs.length = m)) (hn : n * 16 ≤ 140737488351232) (hm : m ≤ 9223372036854775807) :
    Calls Try.prog 6 #[mapV e A n cap, .slice C m cc, .int .i64 id] w fun e w' => e = .returned (.bool true) ∧ Below w.heap.size w w' := by
  obtain ⟨w1, ew1⟩ : ∃ w1, w.alloc (.cells #[.int .u64 (e : Int), .slice A n cap] 37) = w1 := ⟨_, rfl⟩
  have hb1 : Below w.heap.size w w1 := by rw [← ew1]; exact (Below.refl _ _).alloc (Nat.le_refl _) _
  have HB1 := Lib.hid hb1
  have hx : Blk w1 w.heap.size 37 #[.int .u64 (e : Int), .slice A n cap] := by rw [← ew1]; exact Blk.new w _ _
  have k0 : w1.cell? ⟨w.heap.size, 0, none⟩ = some (.int .u64 (e : Int)) := hx.cell 0
  have k1 : w1.cell? ⟨w.heap.size, 1, none⟩ = some (.slice A n cap) := hx.cell 1
  have HZ := Lib.hid (show w.heap.size < w1.heap.size from hx.lt)
  have HR1 := Lib.hid (HR.out.later hb1)
  have HC1 := Lib.hid (HC.out.later hb1)
  have X1 := Lib.hid (fun W (h : Below w1.heap.size w1 W) => loads_any e A n cap ms C m cc cs W (Lib.hid (HR1.out.later h)) (Lib.hid (HC1.out.later h)) hl hcl hn hm)
  have X2 := Lib.hid (fun W (h : Below w1.heap.size w1 W) => rloads_any e A n cap ms C m cc cs W (Lib.hid (HR1.out.later h)) (Lib.hid (HC1.out.later h)) hl hcl hn hm)
  have X3 := Lib.hid (fun W (h : Below w1.heap.size w1 W) => skew_any e A n cap ms C m cc cs W (Lib.hid (HR1.out.later h)) (Lib.hid (HC1.out.later h)) hl hcl hn hm)
  have X4 := Lib.hid (fun W (h : Below w1.heap.size w1 W) => rskew_any e A n cap ms C m cc cs W (Lib.hid (HR1.out.later h)) (Lib.hid (HC1.out.later h)) hl hcl hn hm)
  have X5 := Lib.hid (fun W (h : Below w1.heap.size w1 W) => share_any e A n cap ms id W (Lib.hid (HR1.out.later h)) hl hn)
  have X6 := Lib.hid (fun W (h : Below w1.heap.size w1 W) => rshare_any e A n cap ms id W (Lib.hid (HR1.out.later h)) hl hn)
  have HLL := Lib.hid (lds_len ms cs n)
  generalize lds ms cs n = cl at *
  generalize skw ms cl n = sk at *
  generalize share ms id n = sh at *
  have eV : mapV e A n cap = .agg #[.int .u64 (e : Int), .slice A n cap] := rfl
  rw [eV] at X1 X2 X3 X4 X5 X6 ⊢
  have K := fun (W : World) (h : Below w1.heap.size w1 W) => (⟨cell_later h k0, cell_later h k1⟩ : _ ∧ _)
  have HK := Lib.hid K
  have B1 := Below.refl w1.heap.size w1
  have HBB := Lib.hid B1
  clear hb1 hx eV K B1
  go_enter Try.func6, Try.ntmps6
  have tk1 : True := trivial
  go_wp2
  clear ew1
  have HB1' := Lib.hid (Below.refl w1.heap.size w1)
  go_region_held3 (fun w' => w'.cell? ⟨w.heap.size, 0, none⟩ = some (.int .u64 (e : Int)) ∧ w'.cell? ⟨w.heap.size, 1, none⟩ = some (.slice A n cap)) (first | exact ⟨k0, k1⟩ | exact KC | fail) (first
    | (go_at_call 18; refine (X1.out _ (by exact ⟨rfl, rfl, rfl, Nat.le_refl _, fun _ _ => rfl⟩)).mono ?_; rintro e w2 ⟨v, rs, rfl, HFS⟩; obtain ⟨A1, c1, rfl, RD⟩ := HFS.reads HLL.out; have HE1 := Lib.hid HFS.cl; have RD1 := Lib.hid RD; have HB2 := Lib.hid (show Below w1.heap.size w1 w2 from by first | exact HFS.ap.bel | exact undrew HFS.ap.bel); have KC := HK.out _ HB2.out; clear HFS RD)
    | (go_at_call 19; refine (X2.out _ (by exact HB2.out)).mono ?_; rintro e w3 ⟨v, rs', rfl, HFS⟩; obtain ⟨A2, c2, rfl, RD⟩ := HFS.reads HLL.out; have HE2 := Lib.hid (HE1.out.trans HFS.cl.symm); have RD2 := Lib.hid RD; have HS3 := Lib.hid (show Below w2.heap.size w2 w3 from by first | exact HFS.ap.bel | exact undrew HFS.ap.bel); have HB3 := Lib.hid (HB2.out.trans (HS3.out.mono HB2.out.size)); have RD3 := Lib.hid (RD1.out.later HS3.out); have KC := HK.out _ HB3.out; clear HFS RD)
    | (go_at_call 17; refine (rows_any A1 A2 n c1 c2 rs rs' _ RD3 RD2 HE2 (by omega)).mono ?_; rintro e w4 ⟨rfl, hb⟩; have HS4 := Lib.hid (show Below w3.heap.size w3 w4 from by first | exact hb | exact undrew (hb)); have HB4 := Lib.hid (HB3.out.trans (HS4.out.mono HB3.out.size)); have KC := HK.out _ HB4.out; clear hb)
    | (go_at_call 20; refine (X3.out _ (by exact HB4.out)).mono ?_; rintro e w5 ⟨r5, rfl, hc5, hb⟩; have HS5 := Lib.hid (show Below w4.heap.size w4 w5 from by first | exact hb | exact undrew (hb)); have HB5 := Lib.hid (HB4.out.trans (HS5.out.mono HB4.out.size)); have KC := HK.out _ HB5.out; have HC5 := Lib.hid hc5; clear hb hc5)
    | (go_at_call 21; refine (X4.out _ (by exact HB5.out)).mono ?_; rintro e w6 ⟨r6, rfl, hc6, hb⟩; have HS6 := Lib.hid (show Below w5.heap.size w5 w6 from by first | exact hb | exact undrew (hb)); have HB6 := Lib.hid (HB5.out.trans (HS6.out.mono HB5.out.size)); have KC := HK.out _ HB6.out; have HC6 := Lib.hid (HC5.out.trans hc6.symm); clear hb hc6)
    | (have _t := tk1; go_at_call 7; refine (same_any r5 r6 _ HC6.out).mono ?_; rintro e w' ⟨rfl, hw⟩; rw [hw]; clear tk1 _t hw)
    | (go_at_call 22; refine (X5.out _ (by exact HB6.out)).mono ?_; rintro e w7 ⟨r7, rfl, hc7, hb⟩; have HS7 := Lib.hid (show Below w6.heap.size w6 w7 from by first | exact hb | exact undrew (hb)); have HB7 := Lib.hid (HB6.out.trans (HS7.out.mono HB6.out.size)); have KC := HK.out _ HB7.out; have HC7 := Lib.hid hc7; clear hb hc7)
    | (go_at_call 23; refine (X6.out _ (by exact HB7.out)).mono ?_; rintro e w8 ⟨r8, rfl, hc8, hb⟩; have HS8 := Lib.hid (show Below w7.heap.size w7 w8 from by first | exact hb | exact undrew (hb)); have HB8 := Lib.hid (HB7.out.trans (HS8.out.mono HB7.out.size)); have KC := HK.out _ HB8.out; have HC8 := Lib.hid (HC7.out.trans hc8.symm); clear hb hc8)
    | (go_at_call 7; refine (same_any r7 r8 _ HC8.out).mono ?_; rintro e w' ⟨rfl, hw⟩; rw [hw]; clear hw)
    | (go_at_call 14; refine (heads_any _).mono ?_; rintro e w9 ⟨rfl, hb⟩; have HS9 := Lib.hid (show Below w8.heap.size w8 w9 from by first | exact hb | exact undrew (hb)); have HB9 := Lib.hid (HB8.out.trans (HS9.out.mono HB8.out.size)); have KC := HK.out _ HB9.out; clear hb))
  go_wp2
  go_ret
  exact ⟨rfl, HB1.out.trans (HB9.out.mono HB1.out.size)⟩
theorem walk_GaugeLoads {H : Type} {enc : TypeId × Value → H} (W : World) {base : Nat}
    (v : Value) (d : DataW H) (p : List MemPlace) (h : DataW.Trod enc Try.prog W 0 (fun _ => true) true 37 v d p) (hok : Value.okWide Try.prog W .any base 37 v) (hs : (d.weights Try.prog 37).all (· ≤ reachBytes) = true)
    (C : Option Addr) (m cc : Nat) (zs : List Int) (hz : Ints .i64 W C m cc zs) (sz : m * 8 ≤ 140737488351232) (id : Int) (wid : (Lit.int .i64 id).wf = true) :
    Calls Try.prog 6 #[v, .slice C m cc, .int .i64 id] W fun e w' => e = .returned (.bool true) ∧ Below W.heap.size W w' := by
  obtain ⟨e, A, n, cap, ms, rfl, _, hr, _, _, _, hn⟩ := open_map_sized hok h hs
  have hl : ms.length = n := by have := hr.out.1; rw [mcells_len] at this; omega
  exact gloads_any e A n cap ms C m cc zs id W hr (Lib.hid hz.1) (Lib.hid hl) (Lib.hid hz.2.2.1) hn (by omega)
namespace gaugeLoads
open Go.ChangeShapes Go.WideShapes Go.ChangeAt Go.RowKit
open Go.ChangeMaps (open_string shut_string)
set_option linter.unusedVariables false
theorem own : ownKnob Try.prog.godebug = none := by kernel_rfl
theorem laidOut : laidOutB Try.prog = true := by kernel_rfl
set_option maxRecDepth 100000 in
theorem contract (H : Type) (enc : TypeId × Value → H) (W : World) (base : Nat) (args : Array Value) (ds gs : List (DataW H)) (before : List MemPlace)
    (hval0 : ∀ (j : Nat) t v, Try.f6.params[j]? = some t → args[j]? = some v → Value.okWide Try.prog W .any base t v)
    (hW : DataW.Whole enc Try.prog Try.f6.params.toList Rows.gaugeLoadsSpec.vars false W args.toList ds gs before) (hsz : (DataW.weightsEach Try.prog (Try.f6.params.toList ++ Rows.gaugeLoadsSpec.plain.varTypes Try.prog) (ds ++ gs)).all (· ≤ reachBytes) = true) :
    Calls Try.prog 6 args W fun e W' => ∃ v, e = .returned v ∧ Rows.gaugeLoadsSpec.post enc Try.prog Try.f6 false true false false W args v W' := by
  have hval : ∀ (j : Nat) t v, Try.f6.params[j]? = some t → args[j]? = some v → Value.okWide Try.prog W .any base t v := hval0
  have hW' := hW
  obtain ⟨p, q, hA0, hV, rfl, hfz, hnd⟩ := hW
  have hA : DataW.TrodAll enc Try.prog W 0 (fun _ => true) true Try.f6.params.toList args.toList ds p := hA0
  rw [Try.params6] at hA hval
  obtain ⟨v0, vs0, d0, ds0, p0, q0, hargs, rfl, rfl, h0, r0⟩ := trodAll_cons hA
  obtain ⟨v1, vs1, d1, ds1, p1, q1, rfl, rfl, rfl, h1, r1⟩ := trodAll_cons r0
  obtain ⟨v2, vs2, d2, ds2, p2, q2, rfl, rfl, rfl, h2, r2⟩ := trodAll_cons r1
  obtain ⟨rfl, rfl, rfl⟩ := trodAll_nil r2
  obtain rfl : args = #[v0, v1, v2] := by cases args; simp_all
  obtain ⟨rfl, rfl⟩ := trodVars_none hV
  have k0 := h0
  have lt0 : ∀ x ∈ p0, x.block < W.heap.size := by obtain ⟨m, hm⟩ := k0; exact DataW.trod_lt m _ _ _ hm
  have k1 := h1
  have lt1 : ∀ x ∈ p1, x.block < W.heap.size := by obtain ⟨m, hm⟩ := k1; exact DataW.trod_lt m _ _ _ hm
  have k2 := h2
  have lt2 : ∀ x ∈ p2, x.block < W.heap.size := by obtain ⟨m, hm⟩ := k2; exact DataW.trod_lt m _ _ _ hm
  have s0 : (d0.weights Try.prog 37).all (· ≤ reachBytes) = true := List.all_eq_true.2 fun k hk => List.all_eq_true.1 hsz k (DataW.weights_mem_each (j := 0) (t := 37) (d := d0) rfl rfl k hk)
  obtain ⟨A1, len1, cap1, rfl⟩ := okWide_slice Try.underlying29 (hval 1 29 v1 rfl rfl)
  obtain ⟨z1, w1⟩ := open_in_ints Try.underlying29 Try.underlying3 (by kernel_rfl) h1
  have s1 := ints_reach (b := 8) Try.underlying29 Try.underlying3 (by kernel_rfl) h1 (fun el sr hd => by have := sized_slice hsz (j := 1) (t := 29) (e := 3) (elems := el) (spare := sr) rfl (by subst hd; rfl) Try.underlying29; rwa [show Try.prog.bytesOf 3 = 8 from by kernel_rfl] at this)
  obtain ⟨a2, rfl, rfl, rfl, w2⟩ := open_int Try.underlying3 (hval 2 3 v2 rfl rfl) h2
  clear hA0 hval0
  refine (walk_GaugeLoads W v0 d0 p0 h0 (hval 0 37 v0 rfl rfl) s0 A1 len1 cap1 z1 w1 s1 a2 w2).mono fun e W' ⟨he, bel⟩ => ?_
  subst he
  exact ⟨_, rfl, _, _, _, [], _, [], hW', trodAll_mk1 (shut_bool Try.underlying4 _), (trodAll_cons_mk (Below.trod laidOut (by kernel_rfl) (of_decide_eq_true (by kernel_rfl)) k0 bel lt0) (trodAll_cons_mk (Below.trod laidOut (by kernel_rfl) (of_decide_eq_true (by kernel_rfl)) k1 bel lt1) (trodAll_cons_mk (Below.trod laidOut (by kernel_rfl) (of_decide_eq_true (by kernel_rfl)) k2 bel lt2) trodAll_mk0))), rfl, bel.frame _, fun h => by cases h⟩
set_option maxRecDepth 100000 in
theorem lifted (os : Os) (started : os.Started) (H : Type) (enc : TypeId × Value → H) :
    ReturnsInHanded {} Try.checked os 6 .any (Rows.gaugeLoadsSpec.pre6 enc Try.prog Try.f6 Rows.gaugeLoadsRow.domain false) (Rows.gaugeLoadsSpec.post enc Try.prog Try.f6 false true false false) := by
  refine returnsInHanded_of_change_sized (C := Try.checked) own started (by kernel_rfl) Try.func6
    (ChangeSpec.witness6 (enc := enc) (C := Try.checked) false ⟨#[], #[.agg #[.int .u64 0, .slice none 0 0], .slice none 0 0, .int .i64 0], []⟩ 8 (by kernel_rfl) (by kernel_rfl) (by kernel_rfl) (by kernel_rfl)) ?_
  intro W base args ds gs before hval hW _ hsz _
  exact contract H enc W base args ds gs before hval hW hsz
theorem over : Rows.gaugeLoadsRow.holds Try.pinned (OpenSpec.ofChange Rows.gaugeLoadsSpec) :=
  OpenClaim.holds_of_wide 6 Try.f6 rfl rfl rfl rfl rfl rfl rfl ⟨rfl, rfl, rfl, rfl, rfl⟩ rfl rfl rfl rfl rfl (by kernel_rfl) Try.func6 (by kernel_rfl)
    (of_decide_eq_true (by kernel_rfl)) (by unfold Func.isWrapper; first | (rw [if_pos (by decide +kernel)]; kernel_rfl) | (rw [if_neg (by decide +kernel)]; exact ⟨rfl, rfl⟩))
    (fun os started H enc _ => lifted os started H enc)
/-- THE STATEMENT. -/
theorem proved : Rows.GaugeLoadsSaid := over
end gaugeLoads
end Go.Proofs.Ytckmmcklhdfjfaa
