/-
  PlaceMaps holds for every map, id and weight: which maps may be, and what one is with a member's weight.
-/
import Derived.Test.YtmdffmajnbokeaaPlP2
namespace Go.Proofs.Ytmdffmajnbokeaa
open Go.RowKit PlMath
open Go.WideShapes Go.ChangeShapes
set_option linter.unusedVariables false
theorem undrew {B : Nat} {a w : World} (h : Below B a.drew w) : Below B a w := ⟨h.os, h.tape, h.output, h.size, h.block⟩
theorem rwStep_len (id wt : Int) (s : Bool × List Mem) (x : Mem) : (rwStep id wt s x).2.length ≤ s.2.length + 2 := by
  unfold rwStep
  split
  · dsimp only
    split <;> simp only [List.length_append, List.length_cons, List.length_nil] <;> omega
  · dsimp only
    split
    · simp only [List.length_append, List.length_cons, List.length_nil]; omega
    · omega
theorem rwTo_len (ms : List Mem) (id wt : Int) : ∀ k, (rwTo ms id wt k).2.length ≤ 2 * k
  | 0 => Nat.le_refl _
  | k + 1 => by
    have h1 := rwTo_len ms id wt k
    have h2 := rwStep_len id wt (rwTo ms id wt k) (ms.getD k (0, 0))
    rw [rwTo]
    omega
theorem wRes_ok {e : Nat} {ms : List Mem} {id wt : Int} (he : e < 18446744073709551616) (h64 : M64 ms) (hi : -9223372036854775808 ≤ id ∧ id ≤ 9223372036854775807) (hw : -9223372036854775808 ≤ wt ∧ wt ≤ 9223372036854775807) :
    (wRes e ms id wt).1 < 18446744073709551616 ∧ M64 (wRes e ms id wt).2.1 ∧ (wRes e ms id wt).2.1.length ≤ 1000000000 := by
  unfold wRes
  cases hk : chk ms with
  | false => rw [if_pos rfl]; exact ⟨by decide, (fun x hx => by cases hx), by decide⟩
  | true =>
    rw [if_neg (by decide)]
    split
    · exact ⟨by decide, (fun x hx => by cases hx), by decide⟩
    · obtain ⟨hU, hn⟩ := chk_up hk
      refine ⟨Nat.mod_lt _ (by decide), fun x hx => ?_, ?_⟩
      · rcases ((rwEnd_law hU id wt).2 x).1 hx with rfl | ⟨h, _⟩
        · exact ⟨hi, hw⟩
        · exact h64 x h
      · have h1 := rwTo_len ms id wt ms.length
        show (withR ms id wt).length ≤ _
        unfold withR rwEnd
        split
        · omega
        · simp only [List.length_append, List.length_cons, List.length_nil]; omega
set_option maxRecDepth 100000 in
set_option maxHeartbeats 4000000 in
theorem gmaps_any (e : Nat) (A : Option Addr) (n cap : Nat) (ms : List Mem) (id wt : Int) (w : World) (he : e < 18446744073709551616) (hr : Hid (Reads w w.heap.size 2 A n (mcells ms))) (h64 : M64 ms) (hc : n ≤ cap) (hm : cap ≤ maxLen) (hi : -9223372036854775808 ≤ id ∧ id ≤ 9223372036854775807) (hw : -9223372036854775808 ≤ wt ∧ wt ≤ 9223372036854775807) :
    Calls Try.prog 7 #[mapV e A n cap, .int .i64 id, .int .i64 wt] w fun e w' => e = .returned (.bool true) ∧ Below w.heap.size w w' := by
  have HW := Lib.hid (wRes_ok he h64 hi hw)
  obtain ⟨w1, ew1⟩ : ∃ w1, w.alloc (.cells #[.int .u64 (e : Int), .slice A n cap] 25) = w1 := ⟨_, rfl⟩
  have hb1 : Below w.heap.size w w1 := by rw [← ew1]; exact (Below.refl _ _).alloc (Nat.le_refl _) _
  have HB1 := Lib.hid hb1
  have hx : Blk w1 w.heap.size 25 #[.int .u64 (e : Int), .slice A n cap] := by rw [← ew1]; exact Blk.new w _ _
  have k0 : w1.cell? ⟨w.heap.size, 0, none⟩ = some (.int .u64 (e : Int)) := hx.cell 0
  have k1 : w1.cell? ⟨w.heap.size, 1, none⟩ = some (.slice A n cap) := hx.cell 1
  have HX := Lib.hid hx
  have HR1 := Lib.hid (hr.out.later hb1)
  have X1 := Lib.hid (fun W (h : Below w1.heap.size w1 W) => with_any e A n cap ms id wt W he (Lib.hid (HR1.out.later h)) h64 hc hm)
  have X2 := Lib.hid (fun W (h : Below w1.heap.size w1 W) => rwith_any e A n cap ms id wt W he (Lib.hid (HR1.out.later h)) h64 hc hm)
  have X3 := Lib.hid (fun W (h : Below w1.heap.size w1 W) => check_any e A n cap ms W (HR1.out.later h) h64 hc hm)
  have X4 := Lib.hid (fun W (h : Below w1.heap.size w1 W) => rcheck_any e A n cap ms W (HR1.out.later h) h64 hc hm)
  have X5 := Lib.hid (fun W (h : Below w1.heap.size w1 W) => weights_any e A n cap ms W (HR1.out.later h) hc hm)
  have X6 := Lib.hid (fun W (h : Below w1.heap.size w1 W) => rweights_any e A n cap ms W (HR1.out.later h) hc hm)
  generalize wRes e ms id wt = R at *
  obtain ⟨e', ms', er⟩ := R
  simp only at HW
  have h32 : w.heap.size < w1.heap.size := hx.lt
  generalize errM (chk ms) = ck at *
  generalize wts ms = wn at *
  have eV : mapV e A n cap = .agg #[.int .u64 (e : Int), .slice A n cap] := rfl
  rw [eV] at X1 X2 X3 X4 X5 X6 ⊢
  clear hb1 hx eV
  go_enter Try.func7, Try.ntmps7
  go_wp2_with fail
  clear ew1 k0 k1
  refine (X1.out _ (Below.refl _ _)).mono ?_
  rintro en w2 ⟨A2, n2, c2, rfl, HR2, hc2, hm2, hb2⟩
  have HB2 := Lib.hid hb2
  have z2 : w.heap.size < w2.heap.size := Nat.lt_of_lt_of_le h32 hb2.size
  have k0 : w2.cell? ⟨w.heap.size, 0, none⟩ = some (.int .u64 (e : Int)) := (HX.out.below hb2 HX.out.lt).cell 0
  have k1 : w2.cell? ⟨w.heap.size, 1, none⟩ = some (.slice A n cap) := (HX.out.below hb2 HX.out.lt).cell 1
  clear hb2
  unfold mapV
  obtain ⟨w3, ew3⟩ : ∃ w3, w2.alloc (.cells #[.int .u64 (e' : Int), .slice A2 n2 c2] 25) = w3 := ⟨_, rfl⟩
  have hb3 : Below w2.heap.size w2 w3 := by rw [← ew3]; exact (Below.refl _ _).alloc (Nat.le_refl _) _
  have hx3 : Blk w3 w2.heap.size 25 #[.int .u64 (e' : Int), .slice A2 n2 c2] := by rw [← ew3]; exact Blk.new w2 _ _
  have HB3 := Lib.hid (HB2.out.trans (hb3.mono HB2.out.size))
  have HX3 := Lib.hid hx3
  have HR3 := Lib.hid (HR2.out.later hb3)
  have k2 := cell_later hb3 k0
  have k3 := cell_later hb3 k1
  clear hb3 hx3
  go_wp2_with fail
  clear k0 k1 k2 k3 ew3
  refine (X2.out _ HB3.out).mono ?_
  rintro en w4 ⟨A4, n4, c4, rfl, HR4, hc4, hm4, hb4⟩
  unfold mapV
  have HB4 := Lib.hid (HB3.out.trans (hb4.mono HB3.out.size))
  have HX4 := Lib.hid (HX3.out.below hb4 HX3.out.lt)
  have HR34 := Lib.hid (HR3.out.later hb4)
  clear hb4
  obtain ⟨w5, ew5⟩ : ∃ w5, w4.alloc (.cells #[.int .u64 (e' : Int), .slice A4 n4 c4] 25) = w5 := ⟨_, rfl⟩
  have hb5 : Below w4.heap.size w4 w5 := by rw [← ew5]; exact (Below.refl _ _).alloc (Nat.le_refl _) _
  have hx5 : Blk w5 w4.heap.size 25 #[.int .u64 (e' : Int), .slice A4 n4 c4] := by rw [← ew5]; exact Blk.new w4 _ _
  have HB5 := Lib.hid (HB4.out.trans (hb5.mono HB4.out.size))
  have HXA := Lib.hid (HX4.out.below hb5 HX4.out.lt)
  have HXB := Lib.hid hx5
  have HRA := Lib.hid (HR34.out.later hb5)
  have HRB := Lib.hid (HR4.out.later hb5)
  have HXM := Lib.hid (HX.out.below HB5.out HX.out.lt)
  have l2 : ms'.length = n2 := by have := HR2.out.1; rw [mcells_len] at this; omega
  have l4 : ms'.length = n4 := by have := HR4.out.1; rw [mcells_len] at this; omega
  have X7 := Lib.hid (fun W (h : Below w5.heap.size w5 W) => map_same e' ms' n2 A2 c2 n4 A4 c4 W HW.out.1 (Lib.hid HW.out.2.1) l2 l4 (by have := HW.out.2.2; omega) (Lib.hid (HRA.out.later h)) (Lib.hid (HRB.out.later h)))
  unfold mapV at X7
  have m0 : w5.cell? ⟨w.heap.size, 0, none⟩ = some (.int .u64 (e : Int)) := HXM.out.cell 0
  have m1 : w5.cell? ⟨w.heap.size, 1, none⟩ = some (.slice A n cap) := HXM.out.cell 1
  have a0 : w5.cell? ⟨w2.heap.size, 0, none⟩ = some (.int .u64 (e' : Int)) := HXA.out.cell 0
  have a1 : w5.cell? ⟨w2.heap.size, 1, none⟩ = some (.slice A2 n2 c2) := HXA.out.cell 1
  have b0 : w5.cell? ⟨w4.heap.size, 0, none⟩ = some (.int .u64 (e' : Int)) := HXB.out.cell 0
  have b1 : w5.cell? ⟨w4.heap.size, 1, none⟩ = some (.slice A4 n4 c4) := HXB.out.cell 1
  have HK := Lib.hid (fun (W : World) (h : Below w5.heap.size w5 W) => (⟨cell_later h m0, cell_later h m1, cell_later h a0, cell_later h a1, cell_later h b0, cell_later h b1⟩ : _ ∧ _ ∧ _ ∧ _ ∧ _ ∧ _))
  clear hb5 hx5 l2 l4
  go_wp2
  clear ew5
  go_region_held3 (fun w' => w'.cell? ⟨w.heap.size, 0, none⟩ = some (.int .u64 (e : Int)) ∧ w'.cell? ⟨w.heap.size, 1, none⟩ = some (.slice A n cap) ∧ w'.cell? ⟨w2.heap.size, 0, none⟩ = some (.int .u64 (e' : Int)) ∧ w'.cell? ⟨w2.heap.size, 1, none⟩ = some (.slice A2 n2 c2) ∧ w'.cell? ⟨w4.heap.size, 0, none⟩ = some (.int .u64 (e' : Int)) ∧ w'.cell? ⟨w4.heap.size, 1, none⟩ = some (.slice A4 n4 c4)) (first | exact ⟨m0, m1, a0, a1, b0, b1⟩ | exact KC | fail) (first
    | (go_at_call 21; refine (X3.out _ (by exact ⟨HB5.out.os, HB5.out.tape, HB5.out.output, HB5.out.size, HB5.out.block⟩)).mono ?_; rintro en w6 ⟨rfl, hb⟩; have HS6 := Lib.hid (show Below w5.heap.size w5 w6 from by first | exact hb | exact undrew hb); have HC6 := Lib.hid (HS6.out); have KC := HK.out _ HC6.out; clear hb)
    | (go_at_call 22; refine (X4.out _ (by exact (HB5.out.trans (HC6.out.mono HB5.out.size)))).mono ?_; rintro en w7 ⟨rfl, hb⟩; have HS7 := Lib.hid (show Below w6.heap.size w6 w7 from by first | exact hb | exact undrew hb); have HC7 := Lib.hid (HC6.out.trans (HS7.out.mono HC6.out.size)); have KC := HK.out _ HC7.out; clear hb)
    | (go_at_call 23; refine (X7.out _ (by exact HC7.out)).mono ?_; rintro en w8 ⟨rfl, hb⟩; have HS8 := Lib.hid (show Below w7.heap.size w7 w8 from by first | exact hb | exact undrew hb); have HC8 := Lib.hid (HC7.out.trans (HS8.out.mono HC7.out.size)); have KC := HK.out _ HC8.out; clear hb)
    | (go_at_call 19; refine (X5.out _ (by exact (HB5.out.trans (HC8.out.mono HB5.out.size)))).mono ?_; rintro en w9 ⟨rfl, hb⟩; have HS9 := Lib.hid (show Below w8.heap.size w8 w9 from by first | exact hb | exact undrew hb); have HC9 := Lib.hid (HC8.out.trans (HS9.out.mono HC8.out.size)); have KC := HK.out _ HC9.out; clear hb)
    | (go_at_call 24; refine (X6.out _ (by exact (HB5.out.trans (HC9.out.mono HB5.out.size)))).mono ?_; rintro en w10 ⟨rfl, hb⟩; have HS10 := Lib.hid (show Below w9.heap.size w9 w10 from by first | exact hb | exact undrew hb); have HC10 := Lib.hid (HC9.out.trans (HS10.out.mono HC9.out.size)); have KC := HK.out _ HC10.out; clear hb)
    | (go_at_call 16; refine (heads_any _).mono ?_; rintro en w11 ⟨rfl, hb⟩; have HS11 := Lib.hid (show Below w10.heap.size w10 w11 from by first | exact hb | exact undrew hb); have HC11 := Lib.hid (HC10.out.trans (HS11.out.mono HC10.out.size)); have KC := HK.out _ HC11.out; clear hb))
  go_wp2
  go_ret
  exact ⟨rfl, HB1.out.trans ((HB5.out.trans (HC11.out.mono HB5.out.size)).mono HB1.out.size)⟩
theorem walk_PlaceMaps {H : Type} {enc : TypeId × Value → H} (W : World) {base : Nat}
    (v : Value) (d : DataW H) (p : List MemPlace) (h : DataW.Trod enc Try.prog W 0 (fun _ => true) true 25 v d p) (hok : Value.okWide Try.prog W .any base 25 v)
    (id : Int) (wid : (Lit.int .i64 id).wf = true) (wt : Int) (wwt : (Lit.int .i64 wt).wf = true) :
    Calls Try.prog 7 #[v, .int .i64 id, .int .i64 wt] W fun e w' => e = .returned (.bool true) ∧ Below W.heap.size W w' := by
  obtain ⟨e, A, n, cap, ms, rfl, he, hr, h64, hc, hm⟩ := open_map hok h
  exact gmaps_any e A n cap ms id wt W he hr h64 hc hm (by simpa [Lit.wf, IntKind.min, IntKind.max, IntKind.signed, IntKind.bits] using wid) (by simpa [Lit.wf, IntKind.min, IntKind.max, IntKind.signed, IntKind.bits] using wwt)
namespace placeMaps
open Go.ChangeShapes Go.WideShapes Go.ChangeAt Go.RowKit
open Go.ChangeMaps (open_string shut_string)
set_option linter.unusedVariables false
theorem own : ownKnob Try.prog.godebug = none := by kernel_rfl
theorem laidOut : laidOutB Try.prog = true := by kernel_rfl
set_option maxRecDepth 100000 in
theorem contract (H : Type) (enc : TypeId × Value → H) (W : World) (base : Nat) (args : Array Value) (ds gs : List (DataW H)) (before : List MemPlace)
    (hval0 : ∀ (j : Nat) t v, Try.f7.params[j]? = some t → args[j]? = some v → Value.okWide Try.prog W .any base t v)
    (hW : DataW.Whole enc Try.prog Try.f7.params.toList Rows.placeMapsSpec.vars false W args.toList ds gs before) :
    Calls Try.prog 7 args W fun e W' => ∃ v, e = .returned v ∧ Rows.placeMapsSpec.post enc Try.prog Try.f7 false true false false W args v W' := by
  have hval : ∀ (j : Nat) t v, Try.f7.params[j]? = some t → args[j]? = some v → Value.okWide Try.prog W .any base t v := hval0
  have hW' := hW
  obtain ⟨p, q, hA0, hV, rfl, hfz, hnd⟩ := hW
  have hA : DataW.TrodAll enc Try.prog W 0 (fun _ => true) true Try.f7.params.toList args.toList ds p := hA0
  rw [Try.params7] at hA hval
  obtain ⟨v0, vs0, d0, ds0, p0, q0, hargs, rfl, rfl, h0, r0⟩ := trodAll_cons hA
  obtain ⟨v1, vs1, d1, ds1, p1, q1, rfl, rfl, rfl, h1, r1⟩ := trodAll_cons r0
  obtain ⟨v2, vs2, d2, ds2, p2, q2, rfl, rfl, rfl, h2, r2⟩ := trodAll_cons r1
  obtain ⟨rfl, rfl, rfl⟩ := trodAll_nil r2
  obtain rfl : args = #[v0, v1, v2] := by cases args; simp_all
  obtain ⟨rfl, rfl⟩ := trodVars_none hV
  have k0 := h0
  have lt0 : ∀ x ∈ p0, x.block < W.heap.size := by obtain ⟨m, hm⟩ := k0; exact DataW.trod_lt m _ _ _ hm
  have k1 := h1
  have lt1 : ∀ x ∈ p1, x.block < W.heap.size := by obtain ⟨m, hm⟩ := k1; exact DataW.trod_lt m _ _ _ hm
  have k2 := h2
  have lt2 : ∀ x ∈ p2, x.block < W.heap.size := by obtain ⟨m, hm⟩ := k2; exact DataW.trod_lt m _ _ _ hm
  obtain ⟨a1, rfl, rfl, rfl, w1⟩ := open_int Try.underlying3 (hval 1 3 v1 rfl rfl) h1
  obtain ⟨a2, rfl, rfl, rfl, w2⟩ := open_int Try.underlying3 (hval 2 3 v2 rfl rfl) h2
  clear hA0 hval0
  refine (walk_PlaceMaps W v0 d0 p0 h0 (hval 0 25 v0 rfl rfl) a1 w1 a2 w2).mono fun e W' ⟨he, bel⟩ => ?_
  subst he
  exact ⟨_, rfl, _, _, _, [], _, [], hW', trodAll_mk1 (shut_bool Try.underlying4 _), (trodAll_cons_mk (Below.trod laidOut (by kernel_rfl) (of_decide_eq_true (by kernel_rfl)) k0 bel lt0) (trodAll_cons_mk (Below.trod laidOut (by kernel_rfl) (of_decide_eq_true (by kernel_rfl)) k1 bel lt1) (trodAll_cons_mk (Below.trod laidOut (by kernel_rfl) (of_decide_eq_true (by kernel_rfl)) k2 bel lt2) trodAll_mk0))), rfl, bel.frame _, fun h => by cases h⟩
set_option maxRecDepth 100000 in
theorem lifted (os : Os) (started : os.Started) (H : Type) (enc : TypeId × Value → H) :
    ReturnsInHanded {} Try.checked os 7 .any (Rows.placeMapsSpec.pre6 enc Try.prog Try.f7 Rows.placeMapsRow.domain false) (Rows.placeMapsSpec.post enc Try.prog Try.f7 false true false false) := by
  refine returnsInHanded_of_change (C := Try.checked) own started (by kernel_rfl) Try.func7
    (ChangeSpec.witness6 (enc := enc) (C := Try.checked) false ⟨#[], #[.agg #[.int .u64 0, .slice none 0 0], .int .i64 0, .int .i64 0], []⟩ 8 (by kernel_rfl) (by kernel_rfl) (by kernel_rfl) (by kernel_rfl)) ?_
  intro W base args ds gs before hval hW _ _
  exact contract H enc W base args ds gs before hval hW
theorem over : Rows.placeMapsRow.holds Try.pinned (OpenSpec.ofChange Rows.placeMapsSpec) :=
  OpenClaim.holds_of_wide 7 Try.f7 rfl rfl rfl rfl rfl rfl rfl ⟨rfl, rfl, rfl, rfl, rfl⟩ rfl rfl rfl rfl rfl (by kernel_rfl) Try.func7 (by kernel_rfl)
    (of_decide_eq_true (by kernel_rfl)) (by unfold Func.isWrapper; first | (rw [if_pos (by decide +kernel)]; kernel_rfl) | (rw [if_neg (by decide +kernel)]; exact ⟨rfl, rfl⟩))
    (fun os started H enc _ => lifted os started H enc)
/-- THE STATEMENT. -/
theorem proved : Rows.PlaceMapsSaid := over
end placeMaps
end Go.Proofs.Ytmdffmajnbokeaa
