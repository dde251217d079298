/-
  MatrixAssociates holds for every two rows of bytes and number, where they hold at most 1048576 bytes together: products are associative, and applied one behind the other.
-/
import Derived.Test.YtebpaafofombaaaMxW20
import Derived.Test.YtebpaafofombaaaUpto
namespace Go.Proofs.Ytebpaafofombaaa
open Go.RowKit GfMath MxMath
set_option linter.unusedVariables false
theorem col_first {w : World} {B n m : Nat} {A : Option Addr} {ys : List Nat} (hy : Byt ys) (hl : ys.length = m) (h : Reads w B 1 A m (ys.map bv)) (hn : n ≤ m) : Reads w B 1 A n ((lrow n (col ys)).map bv) := by
  refine ⟨by simp [lrow_len], fun h0 => ?_⟩
  obtain ⟨ad, rfl, hb, hc⟩ := h.2 (by omega)
  refine ⟨ad, rfl, hb, fun j u hu => hc j u ?_⟩
  rcases Nat.lt_or_ge j n with hj | hj
  · rw [List.getElem?_map, lrow_get _ hj] at hu
    have hj2 : j < ys.length := by omega
    rw [List.getElem?_map, List.getElem?_eq_getElem hj2]
    rw [← hu]
    unfold col
    rw [List.getD_eq_getElem?_getD, List.getElem?_eq_getElem hj2, el_v (by exact hy _ (List.getElem_mem hj2))]
    rfl
  · rw [List.getElem?_eq_none (by simp [lrow_len]; omega)] at hu; cases hu
set_option maxRecDepth 100000 in
set_option maxHeartbeats 1000000 in
theorem assoc_else (A B : Option Addr) (len cap m cap' : Nat) (a : Int) (W : World) (hm : m ≤ 9223372036854775807) (h : a < 1 ∨ 8 < a ∨ (m : Int) < a) : Calls Try.prog 6 #[.slice A len cap, .int .i64 a, .slice B m cap'] W (Yes W) := by
  by_cases h1 : a < 1
  · go_enter Try.func6, Try.ntmps6
    go_wp2_with (go_at_call 9; refine (heads_true _).mono ?_; rintro e w1 ⟨rfl, hb⟩; have HB := Lib.hid hb; clear hb)
    go_ret
    exact ⟨rfl, HB.out⟩
  by_cases h2 : 8 < a
  · go_enter Try.func6, Try.ntmps6
    go_wp2_with (go_at_call 9; refine (heads_true _).mono ?_; rintro e w1 ⟨rfl, hb⟩; have HB := Lib.hid hb; clear hb)
    go_ret
    exact ⟨rfl, HB.out⟩
  · have h3 : (m : Int) < a := by omega
    clear h
    go_enter Try.func6, Try.ntmps6
    go_wp2_with (go_at_call 9; refine (heads_true _).mono ?_; rintro e w1 ⟨rfl, hb⟩; have HB := Lib.hid hb; clear hb)
    go_ret
    exact ⟨rfl, HB.out⟩
theorem copy_len (A : Option Addr) (cap n : Nat) (xs : List Nat) (w : World) (hl : xs.length = n) (hr : Reads w w.heap.size 1 A n (xs.map bv)) (hm : n ≤ 140737488351232) :
    Calls Try.prog 23 #[.slice A n cap] w fun e w' => ∃ v, e = .returned v ∧ w'.ownsRow w.heap.size 5 1 v n (xs.map bv) ∧ Below w.heap.size w w' := by
  subst hl
  exact (copy_any A cap xs w hr hm).mono fun e w' ⟨v, he, ho, hb⟩ => ⟨v, he, by simpa using ho, hb⟩
set_option maxRecDepth 100000 in
set_option maxHeartbeats 4000000 in
theorem assoc_ok (A B : Option Addr) (len cap n m cap' : Nat) (xs ys : List Nat) (W : World) (hx : Byt xs) (hl : xs.length = len) (hy : Byt ys) (hly : ys.length = m) (IL : Hid (Reads W W.heap.size 1 A len (xs.map bv))) (IV : Hid (Reads W W.heap.size 1 B m (ys.map bv))) (IW : Hid (Reads W W.heap.size 1 B n ((lrow n (col ys)).map bv))) (hlm : len ≤ 1048576) (hvm : m ≤ 1048576) (n0 : 0 < n) (n1 : n ≤ 8) (hnm : n ≤ m) (hcap : m ≤ cap') :
    Calls Try.prog 6 #[.slice A len cap, .int .i64 n, .slice B m cap'] W (Yes W) := by
  obtain ⟨i0, hi0, hz0, hz1, hz2⟩ := info_parts Try.info5
  have BB := Lib.hid (Below.refl W.heap.size W)
  have HL := Lib.hid hl
  have HX := Lib.hid hx
  have HLY := Lib.hid hly
  have HY := Lib.hid hy
  have HXY : Hid (Byt (ys ++ xs) ∧ (ys ++ xs).length = m + len) := Lib.hid ⟨hy.append hx, by rw [List.length_append, hly, hl]⟩
  obtain ⟨M1, hM1⟩ : ∃ M, sqM xs n = M := ⟨_, rfl⟩
  obtain ⟨M2, hM2⟩ : ∃ M, sqM ys n = M := ⟨_, rfl⟩
  obtain ⟨M3, hM3⟩ : ∃ M, sqM (ys ++ xs) n = M := ⟨_, rfl⟩
  have HM1 := Lib.hid hM1
  have HM2 := Lib.hid hM2
  have HM3 := Lib.hid hM3
  have hn : n ≤ 255 := by omega
  have K1 : Hid (lmat n n (mm n M1 (mm n M2 M3)) = lmat n n (mm n (mm n M1 M2) M3)) := Lib.hid (lmat_congr fun i j _ _ => (mm_assoc n n M1 M2 M3 i j).symm)
  have K2 : Hid (lrow n (fun i => fsum n (fun j => M1 i j * fsum n (fun k => M2 j k * col ys k))) = lrow n (fun i => fsum n (fun k => mm n M1 M2 i k * col ys k))) := Lib.hid (lrow_congr fun i _ => apply_mm n M1 M2 (col ys) i)
  have hsl : ∀ W : World, (Instr.sliceAt 22 (.slice B m cap') none (some (.int .i64 (n : Int))) none).run Try.prog W = .ok (.slice B n cap') W := fun W => slice_to Try.underlying22 hi0 hz1 B m cap' n (by omega) W
  clear hM1 hM2 hM3 hl hx hly hy
  have ts1 : True := trivial
  have ts2 : True := trivial
  have tm1 : True := trivial
  have tm2 : True := trivial
  have tm3 : True := trivial
  have ta1 : True := trivial
  have ta2 : True := trivial
  go_enter Try.func6, Try.ntmps6
  go_wp2_with (first
    | (go_at_call 10; have _t := ts1; refine (square_any A cap len n xs _ HX.out HL.out IL hn (by unfold maxLen; omega)).mono ?_; rintro e w1 ⟨v1, rfl, h1⟩; rw [HM1.out] at h1; clear ts1 _t; obtain ⟨A1, c1, rfl, i1⟩ := own_mat h1.own; have I1 := Lib.hid i1; have hb := h1.bel; clear h1 i1; have IL := Lib.hid (IL.out.later hb); have IV := Lib.hid (IV.out.later hb); have IW := Lib.hid (IW.out.later hb); have BB := Lib.hid (bel_trans BB.out hb); clear hb)
    | (go_at_call 10; have _t := ts2; refine (square_any B cap' m n ys _ HY.out HLY.out IV hn (by unfold maxLen; omega)).mono ?_; rintro e w2 ⟨v2, rfl, h2⟩; rw [HM2.out] at h2; clear ts2 _t; obtain ⟨A2, c2, rfl, i2⟩ := own_mat h2.own; have I2 := Lib.hid i2; have hb := h2.bel; clear h2 i2; have IL := Lib.hid (IL.out.later hb); have IV := Lib.hid (IV.out.later hb); have IW := Lib.hid (IW.out.later hb); have I1 := Lib.hid (I1.out.later hb); have BB := Lib.hid (bel_trans BB.out hb); clear hb)
    | (go_at_call 23; refine (copy_len B cap' m ys _ HLY.out IV.out (by omega)).mono ?_; rintro e w3 ⟨v3, rfl, o3, b3⟩; have O3 := Lib.hid o3; have B3 := Lib.hid b3; have IL3 := Lib.hid (IL.out.later b3); clear o3 b3)
    | (at_builtin
       refine wpList_append_any _ rfl (.tmp 44) (.tmp 45) _ rfl w2.heap.size 5 i0 (.int .u8 0) 1 1 Try.underlying22 hi0 hz0 hz1 hz2 rfl (by decide) v3 m (ys.map bv) rfl O3.out _ A len cap (xs.map bv) rfl IL3.out (bv_one xs) ?ln ?bt B3.out.size ?_
       case ln => (unfold maxLen; omega)
       case bt => omega
       intro v4 w4 o4 g4 _
       have hb := bel_grown_own B3.out B3.out.size O3.out g4
       rw [← List.map_append] at o4
       obtain ⟨A4, c4, rfl, _, _⟩ := own_slice o4
       have I4 := Lib.hid (Reads.of_own o4)
       clear o4 g4 O3 B3 IL3
       have IL := Lib.hid (IL.out.later hb); have IV := Lib.hid (IV.out.later hb); have IW := Lib.hid (IW.out.later hb); have I1 := Lib.hid (I1.out.later hb); have I2 := Lib.hid (I2.out.later hb); have BB := Lib.hid (bel_trans BB.out hb); clear hb)
    | (go_at_call 10; refine (square_any A4 c4 (m + len) n (ys ++ xs) _ HXY.out.1 HXY.out.2 I4 hn (by unfold maxLen; omega)).mono ?_; rintro e w5 ⟨v5, rfl, h5⟩; rw [HM3.out] at h5; obtain ⟨A5, c5, rfl, i5⟩ := own_mat h5.own; have I5 := Lib.hid i5; have hb := h5.bel; clear h5 i5; have IL := Lib.hid (IL.out.later hb); have IV := Lib.hid (IV.out.later hb); have IW := Lib.hid (IW.out.later hb); have I1 := Lib.hid (I1.out.later hb); have I2 := Lib.hid (I2.out.later hb); have BB := Lib.hid (bel_trans BB.out hb); clear hb)
    | (go_at_call 14; have _t := tm1; refine (mul_ok _ _ _ _ n n n M1 M2 _ I1 I2 n0 hn n0 hn n0 hn).mono ?_; rintro e w6 ⟨v6, rfl, h6⟩; clear tm1 _t; obtain ⟨A6, c6, rfl, i6⟩ := own_mat h6.own; have I6 := Lib.hid i6; have hb := h6.bel; clear h6 i6; have IW := Lib.hid (IW.out.later hb); have I1 := Lib.hid (I1.out.later hb); have I2 := Lib.hid (I2.out.later hb); have I5 := Lib.hid (I5.out.later hb); have BB := Lib.hid (bel_trans BB.out hb); clear hb)
    | (go_at_call 14; have _t := tm2; refine (mul_ok _ _ _ _ n n n M2 M3 _ I2 I5 n0 hn n0 hn n0 hn).mono ?_; rintro e w7 ⟨v7, rfl, h7⟩; clear tm2 _t; obtain ⟨A7, c7, rfl, i7⟩ := own_mat h7.own; have I7 := Lib.hid i7; have hb := h7.bel; clear h7 i7; have IW := Lib.hid (IW.out.later hb); have I1 := Lib.hid (I1.out.later hb); have I2 := Lib.hid (I2.out.later hb); have I5 := Lib.hid (I5.out.later hb); have I6 := Lib.hid (I6.out.later hb); have BB := Lib.hid (bel_trans BB.out hb); clear hb)
    | (go_at_call 14; have _t := tm3; refine (mul_ok _ _ _ _ n n n (mm n M1 M2) M3 _ I6 I5 n0 hn n0 hn n0 hn).mono ?_; rintro e w8 ⟨v8, rfl, h8⟩; clear tm3 _t; obtain ⟨A8, c8, rfl, i8⟩ := own_mat h8.own; have I8 := Lib.hid i8; have hb := h8.bel; clear h8 i8; have IW := Lib.hid (IW.out.later hb); have I1 := Lib.hid (I1.out.later hb); have I2 := Lib.hid (I2.out.later hb); have I6 := Lib.hid (I6.out.later hb); have I7 := Lib.hid (I7.out.later hb); have BB := Lib.hid (bel_trans BB.out hb); clear hb)
    | (go_at_call 14; refine (mul_ok _ _ _ _ n n n M1 (mm n M2 M3) _ I1 I7 n0 hn n0 hn n0 hn).mono ?_; rintro e w9 ⟨v9, rfl, h9⟩; rw [K1.out] at h9; obtain ⟨A9, c9, rfl, i9⟩ := own_mat h9.own; have I9 := Lib.hid i9; have hb := h9.bel; clear h9 i9; have IW := Lib.hid (IW.out.later hb); have I1 := Lib.hid (I1.out.later hb); have I2 := Lib.hid (I2.out.later hb); have I6 := Lib.hid (I6.out.later hb); have I8 := Lib.hid (I8.out.later hb); have BB := Lib.hid (bel_trans BB.out hb); clear hb)
    | (go_at_call 21; have _t := ta1; refine (apply_ok _ _ _ _ n n M2 (col ys) _ I2 IW n0 hn n0 hn).mono ?_; rintro e w10 h10; clear ta1 _t; obtain ⟨A10, c10, rfl, _, _, o10, hb⟩ := h10; have I10 := Lib.hid (Reads.of_own o10); clear o10; have IW := Lib.hid (IW.out.later hb); have I1 := Lib.hid (I1.out.later hb); have I6 := Lib.hid (I6.out.later hb); have I8 := Lib.hid (I8.out.later hb); have I9 := Lib.hid (I9.out.later hb); have BB := Lib.hid (bel_trans BB.out hb); clear hb)
    | (go_at_call 21; have _t := ta2; refine (apply_ok _ _ _ _ n n M1 _ _ I1 I10 n0 hn n0 hn).mono ?_; rintro e w11 h11; unfold RetRowE at h11; rw [K2.out] at h11; clear ta2 _t; obtain ⟨A11, c11, rfl, _, _, o11, hb⟩ := h11; have I11 := Lib.hid (Reads.of_own o11); clear o11; have IW := Lib.hid (IW.out.later hb); have I6 := Lib.hid (I6.out.later hb); have I8 := Lib.hid (I8.out.later hb); have I9 := Lib.hid (I9.out.later hb); have BB := Lib.hid (bel_trans BB.out hb); clear hb)
    | (go_at_call 21; refine (apply_ok _ _ _ _ n n (mm n M1 M2) (col ys) _ I6 IW n0 hn n0 hn).mono ?_; rintro e w12 h12; obtain ⟨A12, c12, rfl, _, _, o12, hb⟩ := h12; have I12 := Lib.hid (Reads.of_own o12); clear o12; have I8 := Lib.hid (I8.out.later hb); have I9 := Lib.hid (I9.out.later hb); have I11 := Lib.hid (I11.out.later hb); have BB := Lib.hid (bel_trans BB.out hb); clear hb)
    | (go_at_call 15; refine (samem_bel _ _ _ _ n n _ _ _ I8 I9 (by rw [lmat_len]) (by rw [lmat_len])).mono ?_; rintro e w13 ⟨rfl, hb⟩; rw [same_true]; have I11 := Lib.hid (I11.out.later hb); have I12 := Lib.hid (I12.out.later hb); have BB := Lib.hid (bel_trans BB.out hb); clear hb)
    | (go_at_call 22; refine (same_any _ _ _ _ n n _ _ _ (lrow_byt _ _) (lrow_byt _ _) I11.out I12.out).mono ?_; rintro e w14 ⟨rfl, rfl⟩; rw [sameb_true])
    | (go_at_call 9; refine (heads_true _).mono ?_; rintro e w15 ⟨rfl, hb⟩; have BB := Lib.hid (bel_trans BB.out hb); clear hb))
  go_ret
  exact ⟨rfl, BB.out⟩
theorem walk_MatrixAssociates (W : World) (A : Option Addr) (len cap : Nat) (z : List Int) (h : Ints .u8 W A len cap z) (hb : len ≤ 1048576) (a : Int) (wa : (Lit.int .i64 a).wf = true) (B : Option Addr) (m cap' : Nat) (z' : List Int) (h' : Ints .u8 W B m cap' z') (hb' : m ≤ 1048576) :
    Calls Try.prog 6 #[.slice A len cap, .int .i64 a, .slice B m cap'] W (Yes W) := by
  obtain ⟨xs, hx, hl, hr, h1, h2⟩ := h.bytes
  obtain ⟨ys, hy, hly, hry, h3, h4⟩ := h'.bytes
  by_cases e : a < 1 ∨ 8 < a ∨ (m : Int) < a
  · exact assoc_else A B len cap m cap' a W (by omega) e
  · obtain ⟨n, rfl⟩ : ∃ n : Nat, a = (n : Int) := ⟨a.toNat, by omega⟩
    exact assoc_ok A B len cap n m cap' xs ys W hx hl hy hly (Lib.hid hr) (Lib.hid hry) (Lib.hid (col_first hy hly hry (by omega))) hb hb' (by omega) (by omega) (by omega) h3
namespace matrixAssociates
open Go.ChangeShapes Go.WideShapes Go.ChangeAt Go.RowKit
open Go.ChangeMaps (open_string shut_string)
set_option linter.unusedVariables false
theorem own : ownKnob Try.prog.godebug = none := by kernel_rfl
theorem laidOut : laidOutB Try.prog = true := by kernel_rfl
set_option maxRecDepth 100000 in
theorem contract (H : Type) (enc : TypeId × Value → H) (W : World) (base : Nat) (args : Array Value) (ds gs : List (DataW H)) (before : List MemPlace)
    (hval0 : ∀ (j : Nat) t v, Try.f6.params[j]? = some t → args[j]? = some v → Value.okWide Try.prog W .any base t v)
    (hW : DataW.Whole enc Try.prog Try.f6.params.toList Rows.matrixAssociatesSpec.vars false W args.toList ds gs before) (hk : Rows.uptoSmall H (ds ++ gs) = true) :
    Calls Try.prog 6 args W fun e W' => ∃ v, e = .returned v ∧ Rows.matrixAssociatesSpec.post enc Try.prog Try.f6 false true false false W args v W' := by
  have hval : ∀ (j : Nat) t v, Try.f6.params[j]? = some t → args[j]? = some v → Value.okWide Try.prog W .any base t v := hval0
  have hW' := hW
  obtain ⟨p, q, hA0, hV, rfl, hfz, hnd⟩ := hW
  have hA : DataW.TrodAll enc Try.prog W 0 (fun _ => true) true Try.f6.params.toList args.toList ds p := hA0
  rw [Try.params6] at hA hval
  obtain ⟨v0, vs0, d0, ds0, p0, q0, hargs, rfl, rfl, h0, r0⟩ := trodAll_cons hA
  obtain ⟨v1, vs1, d1, ds1, p1, q1, rfl, rfl, rfl, h1, r1⟩ := trodAll_cons r0
  obtain ⟨v2, vs2, d2, ds2, p2, q2, rfl, rfl, rfl, h2, r2⟩ := trodAll_cons r1
  obtain ⟨rfl, rfl, rfl⟩ := trodAll_nil r2
  obtain rfl : args = #[v0, v1, v2] := by cases args; simp_all
  obtain ⟨rfl, rfl⟩ := trodVars_none hV
  have k0 := h0
  have lt0 : ∀ x ∈ p0, x.block < W.heap.size := by obtain ⟨m, hm⟩ := k0; exact DataW.trod_lt m _ _ _ hm
  have k1 := h1
  have lt1 : ∀ x ∈ p1, x.block < W.heap.size := by obtain ⟨m, hm⟩ := k1; exact DataW.trod_lt m _ _ _ hm
  have k2 := h2
  have lt2 : ∀ x ∈ p2, x.block < W.heap.size := by obtain ⟨m, hm⟩ := k2; exact DataW.trod_lt m _ _ _ hm
  have hk1 := of_decide_eq_true hk
  simp only [List.cons_append, List.nil_append, Rows.uptoBulkAll] at hk1
  obtain ⟨A0, len0, cap0, rfl⟩ := okWide_slice Try.underlying22 (hval 0 22 v0 rfl rfl)
  obtain ⟨z0, w0⟩ := open_in_ints Try.underlying22 Try.underlying5 (by kernel_rfl) h0
  have b0 := ints_small Try.underlying22 Try.underlying5 (by kernel_rfl) h0 (by omega)
  obtain ⟨a1, rfl, rfl, rfl, w1⟩ := open_int Try.underlying3 (hval 1 3 v1 rfl rfl) h1
  obtain ⟨A2, len2, cap2, rfl⟩ := okWide_slice Try.underlying22 (hval 2 22 v2 rfl rfl)
  obtain ⟨z2, w2⟩ := open_in_ints Try.underlying22 Try.underlying5 (by kernel_rfl) h2
  have b2 := ints_small Try.underlying22 Try.underlying5 (by kernel_rfl) h2 (by omega)
  clear hA0 hval0
  refine (walk_MatrixAssociates W A0 len0 cap0 z0 w0 b0 a1 w1 A2 len2 cap2 z2 w2 b2).mono fun e W' ⟨he, bel⟩ => ?_
  subst he
  exact ⟨_, rfl, _, _, _, [], _, [], hW', trodAll_mk1 (shut_bool Try.underlying4 _), (trodAll_cons_mk (Below.trod laidOut (by kernel_rfl) (of_decide_eq_true (by kernel_rfl)) k0 bel lt0) (trodAll_cons_mk (Below.trod laidOut (by kernel_rfl) (of_decide_eq_true (by kernel_rfl)) k1 bel lt1) (trodAll_cons_mk (Below.trod laidOut (by kernel_rfl) (of_decide_eq_true (by kernel_rfl)) k2 bel lt2) trodAll_mk0))), rfl, bel.frame _, fun h => by cases h⟩
set_option maxRecDepth 100000 in
theorem lifted (os : Os) (started : os.Started) (H : Type) (enc : TypeId × Value → H) (F : Stop.Interp) :
    ReturnsInHanded {} Try.checked os 6 .any ((Rows.OpenSpec.upto Rows.matrixAssociatesSpec).pre6 enc Try.prog Try.f6 Rows.matrixAssociatesUptoRow.domain false) (((Rows.OpenSpec.upto Rows.matrixAssociatesSpec).at F).post enc Try.prog Try.f6 false true false false) := by
  refine returnsInHanded_of_cond (C := Try.checked) (s := Rows.OpenSpec.upto Rows.matrixAssociatesSpec) (k := Rows.uptoSmall) rfl own started (by kernel_rfl) Try.func6
    (OpenSpec.witness (enc := enc) (C := Try.checked) (s := Rows.OpenSpec.upto Rows.matrixAssociatesSpec) (k := Rows.uptoSmall) rfl false ⟨#[], #[.slice none 0 0, .int .i64 0, .slice none 0 0], []⟩ 8 (by kernel_rfl) (by kernel_rfl) (by kernel_rfl)
      (x := ([.nil, .lit (.int .i64 0), .nil], [], [])) (by kernel_rfl) rfl (by kernel_rfl)) ?_
  intro W base args ds gs before hval hW _ hk _
  exact contract H enc W base args ds gs before hval hW hk
theorem over : Rows.matrixAssociatesUptoRow.holds Try.pinned (Rows.OpenSpec.upto Rows.matrixAssociatesSpec) :=
  OpenClaim.holds_of_cond 6 Try.f6 rfl rfl rfl rfl rfl rfl rfl ⟨rfl, rfl, rfl, rfl, rfl⟩ rfl rfl rfl rfl rfl (by kernel_rfl) Try.func6 (by kernel_rfl)
    (of_decide_eq_true (by kernel_rfl)) (by unfold Func.isWrapper; first | (rw [if_pos (by decide +kernel)]; kernel_rfl) | (rw [if_neg (by decide +kernel)]; exact ⟨rfl, rfl⟩))
    (fun os started H enc _ F => lifted os started H enc F)
/-- THE STATEMENT. -/
theorem proved : Rows.MatrixAssociatesUptoSaid := over
end matrixAssociates
end Go.Proofs.Ytebpaafofombaaa
