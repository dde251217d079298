/-
  The law OctetPuts: its walk, and the statement.
-/
import Derived.Test.YthdmnmpdmniaaaaOctW8
namespace Go.Proofs.Ythdmnmpdmniaaaa
open Go.RowKit OctMath
set_option linter.unusedVariables false
theorem u64_nat {b : Int} (h : Lit.wf (.int .u64 b)) : ∃ n : Nat, b = n ∧ n < 18446744073709551616 := by
  have : 0 ≤ b ∧ b ≤ 18446744073709551615 := by simpa [Lit.wf, IntKind.min, IntKind.max, IntKind.signed, IntKind.bits] using h
  exact ⟨b.toNat, by omega, by omega⟩
set_option maxRecDepth 100000 in
set_option maxHeartbeats 4000000 in
theorem puts_any (A B : Option Addr) (c1 c2 l m : Nat) (xs ys : List Nat) (n : Nat) (i : Int) (f : Bool) (W : World) (hx : Byt xs) (hy : Byt ys) (HO : Hid (Reads W W.heap.size 1 A l (xs.map bv))) (HX : Hid (Reads W W.heap.size 1 B m (ys.map bv)))
    (hn : n < 18446744073709551616) (hi1 : -9223372036854775808 ≤ i) (hi2 : i ≤ 9223372036854775807) (hl : l ≤ 1048576) (hm : m ≤ 1048576) (hc2 : m ≤ c2) (hm2 : c2 ≤ maxLen) :
    Calls Try.prog 6 #[.slice A l c1, .int .u64 n, .int .i64 i, .slice B m c2, .bool f] W fun e w' => e = .returned (.bool true) ∧ Below W.heap.size W w' := by
  unfold maxLen at hm2
  have hmk : ∀ W : World, (Instr.makeSlice 22 (.int .i64 0) (.int .i64 ((l : Int) + 40))).run Try.prog W = .ok (.slice (some ⟨W.heap.size, 0, none⟩) 0 (l + 40)) (W.alloc (.cells (madeCells #[.int .u8 0] (l + 40)) 5)) := fun W => by
    have := make0 (l + 40) (by omega) W
    rw [show ((l + 40 : Nat) : Int) = (l : Int) + 40 from by omega] at this
    exact this
  have B1 : Byt (xs ++ putN n) := hx.append (putN_byt _)
  have B2 : Byt (xs ++ putN (zz i)) := hx.append (putN_byt _)
  have B3 : Byt (xs ++ (putN m ++ ys)) := hx.append (Byt.append (putN_byt _) hy)
  have B4 : Byt (xs ++ [f.toNat]) := hx.append (byt_lit (by cases f <;> decide))
  obtain ⟨l1, e1⟩ : ∃ l, xs ++ putN n = l := ⟨_, rfl⟩
  obtain ⟨l2, e2⟩ : ∃ l, xs ++ putN (zz i) = l := ⟨_, rfl⟩
  obtain ⟨l3, e3⟩ : ∃ l, xs ++ (putN m ++ ys) = l := ⟨_, rfl⟩
  obtain ⟨l4, e4⟩ : ∃ l, xs ++ [f.toNat] = l := ⟨_, rfl⟩
  rw [e1] at B1
  rw [e2] at B2
  rw [e3] at B3
  rw [e4] at B4
  have E1 := Lib.hid e1
  have E2 := Lib.hid e2
  have E3 := Lib.hid e3
  have E4 := Lib.hid e4
  have hlx : xs.length = l := by simpa using HO.out.1
  have hly : ys.length = m := by simpa using HX.out.1
  have HLX := Lib.hid hlx
  have HLY := Lib.hid hly
  clear e1 e2 e3 e4 hlx hly
  go_enter Try.func6, Try.ntmps6
  go_wp2_with (at_builtin
               refine wpl_append rfl (.tmp 19) (.tmp 20) _ rfl W W.heap.size 5 _ 1 1 Try.underlying22 Try.infoU8 rfl (by decide) (.slice (some ⟨W.heap.size, 0, none⟩) 0 (l + 40)) 0 [] rfl ?own (W.heap.size + 1) A l c1 (xs.map bv) rfl ?rd (bv_one xs) (by omega) (by decide) ?bel ?base ?_
               case own => exact World.ownsRow_made W _ _ (Nat.le_refl _) (by unfold maxLen; omega) (by rw [size_madeCells, Nat.mul_one])
               case rd => exact (HO.out.alloc (Nat.le_refl _) _).more (by simp)
               case bel => exact (Below.refl _ _).alloc (Nat.le_refl _) _
               case base => simp
               intro v1 w1 hh1
               have hb : Below W.heap.size W w1 := hh1.out.2.1
               have ho := hh1.out.1
               rw [Nat.zero_add, List.nil_append] at ho
               obtain ⟨A1, cv, rfl, -, -⟩ := own_slice ho
               have HV := Lib.hid (Reads.of_own ho)
               have HO1 := hgrow HO hb
               have HX1 := hgrow HX hb
               clear HO HX hh1 ho
               have HO := HO1
               have HX := HX1
               clear HO1 HX1)

  refine (putnumB A1 cv l xs _ HV n hn (by omega)).mono ?_
  rintro e w2 ⟨Aa, na, ca, rfl, Ha, hg, -, -⟩
  rw [E1.out] at Ha
  have hb2 : Below W.heap.size W w2 := hb.trans (hg.mono hb.size)
  have HV := hgrow HV hg
  have HO := hgrow HO hg
  have HX := hgrow HX hg
  clear hg hb
  go_wp2_with fail
  refine (putintB A1 cv l xs _ HV i hi1 hi2 (by omega)).mono ?_
  rintro e w3 ⟨Ab, nb, cb, rfl, Hb, hg, -, -⟩
  rw [E2.out] at Hb
  have hb3 : Below W.heap.size W w3 := hb2.trans (hg.mono hb2.size)
  have HV := hgrow HV hg
  have HO := hgrow HO hg
  have HX := hgrow HX hg
  have Ha := hgrow Ha hg
  clear hg hb2
  go_wp2_with fail
  refine (putbytesB A1 cv l xs _ HV B c2 m ys HX (by omega)).mono ?_
  rintro e w4 ⟨Ac, nc, cc, rfl, Hc, hg, -, -⟩
  rw [E3.out] at Hc
  have hb4 : Below W.heap.size W w4 := hb3.trans (hg.mono hb3.size)
  have HV := hgrow HV hg
  have HO := hgrow HO hg
  have HX := hgrow HX hg
  have Ha := hgrow Ha hg
  have Hb := hgrow Hb hg
  clear hg hb3
  go_wp2_with fail
  refine (putflagB A1 cv l xs _ HV f (by omega)).mono ?_
  rintro e w5 ⟨Ad, nd, cd, rfl, Hd, hg, -, -⟩
  rw [E4.out] at Hd
  have hb5 : Below W.heap.size W w5 := hb4.trans (hg.mono hb4.size)
  have HV := hgrow HV hg
  have HO := hgrow HO hg
  have HX := hgrow HX hg
  have Ha := hgrow Ha hg
  have Hb := hgrow Hb hg
  have Hc := hgrow Hc hg
  clear hg hb4
  go_wp2_with fail
  refine (rputnumB A c1 l xs _ HO n hn (by omega)).mono ?_
  rintro e w6 ⟨Ap, np, cp, rfl, Hp, hg, -, -⟩
  rw [E1.out] at Hp
  have hb6 : Below W.heap.size W w6 := hb5.trans (hg.mono hb5.size)
  have HV := hgrow HV hg
  have HO := hgrow HO hg
  have HX := hgrow HX hg
  have Ha := hgrow Ha hg
  have Hb := hgrow Hb hg
  have Hc := hgrow Hc hg
  have Hd := hgrow Hd hg
  clear hg hb5
  go_wp2_with fail
  refine (sameB Aa ca na l1 _ Ha B1 Ap cp np Hp).mono ?_
  rintro e w' ⟨rfl, rfl⟩
  go_wp2_with fail
  refine (rputintB A c1 l xs _ HO i hi1 hi2 (by omega)).mono ?_
  rintro e w7 ⟨Aq, nq, cq, rfl, Hq, hg, -, -⟩
  rw [E2.out] at Hq
  have hb7 : Below W.heap.size W w7 := hb6.trans (hg.mono hb6.size)
  have HV := hgrow HV hg
  have HO := hgrow HO hg
  have HX := hgrow HX hg
  have Ha := hgrow Ha hg
  have Hb := hgrow Hb hg
  have Hc := hgrow Hc hg
  have Hd := hgrow Hd hg
  have Hp := hgrow Hp hg
  clear hg hb6
  go_wp2_with fail
  refine (sameB Ab cb nb l2 _ Hb B2 Aq cq nq Hq).mono ?_
  rintro e w' ⟨rfl, rfl⟩
  go_wp2_with fail
  refine (rputbytesB A c1 l xs _ HO B c2 m ys HX (by omega)).mono ?_
  rintro e w8 ⟨Ar, nr, cr, rfl, Hr, hg, -, -⟩
  rw [E3.out] at Hr
  have hb8 : Below W.heap.size W w8 := hb7.trans (hg.mono hb7.size)
  have HV := hgrow HV hg
  have HO := hgrow HO hg
  have HX := hgrow HX hg
  have Ha := hgrow Ha hg
  have Hb := hgrow Hb hg
  have Hc := hgrow Hc hg
  have Hd := hgrow Hd hg
  have Hp := hgrow Hp hg
  have Hq := hgrow Hq hg
  clear hg hb7
  go_wp2_with fail
  refine (sameB Ac cc nc l3 _ Hc B3 Ar cr nr Hr).mono ?_
  rintro e w' ⟨rfl, rfl⟩
  go_wp2_with fail
  refine (rputflagB A c1 l xs _ HO f (by omega)).mono ?_
  rintro e w9 ⟨As, ns, cs, rfl, Hs, hg, -, -⟩
  rw [E4.out] at Hs
  have hb9 : Below W.heap.size W w9 := hb8.trans (hg.mono hb8.size)
  have HV := hgrow HV hg
  have HO := hgrow HO hg
  have HX := hgrow HX hg
  have Ha := hgrow Ha hg
  have Hb := hgrow Hb hg
  have Hc := hgrow Hc hg
  have Hd := hgrow Hd hg
  have Hp := hgrow Hp hg
  have Hq := hgrow Hq hg
  have Hr := hgrow Hr hg
  clear hg hb8
  go_wp2_with fail
  refine (sameB Ad cd nd l4 _ Hd B4 As cs ns Hs).mono ?_
  rintro e w' ⟨rfl, rfl⟩
  go_wp2_with fail
  refine (sameB A1 cv l xs _ HV hx A c1 l HO).mono ?_
  rintro e w' ⟨rfl, rfl⟩
  go_wp2_with fail
  refine (crc_any B c2 m ys _ hy HLY.out HX.out (by unfold maxLen; omega)).mono ?_
  rintro e w10 ⟨rfl, hg⟩
  have hb10 : Below W.heap.size W w10 := hb9.trans (hg.mono hb9.size)
  have HX := hgrow HX hg
  clear hg hb9 HV HO Ha Hb Hc Hd Hp Hq Hr Hs
  go_wp2_with fail
  refine (rcrc_any B c2 m ys _ hy HLY.out HX.out (by unfold maxLen; omega)).mono ?_
  rintro e w' ⟨rfl, rfl⟩
  generalize crc ys = crcy
  go_wp2_with fail
  have hw := fun w => word_any (n % 4294967296) w (by omega)
  have hrw := fun w => rword_any (n % 4294967296) w (by omega)
  have BW := wordL_byt (n % 4294967296) (by omega)
  rw [show ((n % 4294967296 : Nat) : Int) = (n : Int) % 4294967296 from by omega] at hw hrw
  generalize wordL (n % 4294967296) = lw at hw hrw BW
  refine (hw _).mono ?_
  rintro e w11 ⟨Ax, nx, cx, rfl, Hx, hg, -, -⟩
  have hb11 : Below W.heap.size W w11 := hb10.trans (hg.mono hb10.size)
  clear hg hb10
  go_wp2_with fail
  refine (hrw _).mono ?_
  rintro e w12 ⟨Ay, ny, cy, rfl, Hy, hg, -, -⟩
  have hb12 : Below W.heap.size W w12 := hb11.trans (hg.mono hb11.size)
  have Hx := hgrow Hx hg
  clear hg hb11
  go_wp2_with fail
  refine (sameB Ax cx nx lw _ Hx BW Ay cy ny Hy).mono ?_
  rintro e w' ⟨rfl, rfl⟩
  go_wp2_with fail
  refine (heads_any _).mono ?_
  rintro e w' ⟨rfl, hg⟩
  go_wp2
  go_ret
  exact ⟨rfl, hb12.trans (hg.mono hb12.size)⟩
theorem walk_OctetPuts (W : World) (A : Option Addr) (l c1 : Nat) (z : List Int) (hA : Ints .u8 W A l c1 z) (b0 : l ≤ 1048576) (n : Int) (wn : Lit.wf (.int .u64 n)) (i : Int) (wi : Lit.wf (.int .i64 i)) (B : Option Addr) (m c2 : Nat) (z' : List Int) (hB : Ints .u8 W B m c2 z') (b3 : m ≤ 1048576) (f : Bool) :
    Calls Try.prog 6 #[.slice A l c1, .int .u64 n, .int .i64 i, .slice B m c2, .bool f] W fun e w' => e = .returned (.bool true) ∧ Below W.heap.size W w' := by
  obtain ⟨n, rfl, hn⟩ := u64_nat wn
  obtain ⟨xs, hx, hxl, hr, hc, hm⟩ := hA.bytes
  obtain ⟨ys, hy, hyl, hr', hc', hm'⟩ := hB.bytes
  have wi : -9223372036854775808 ≤ i ∧ i ≤ 9223372036854775807 := by simpa [Lit.wf, IntKind.min, IntKind.max, IntKind.signed, IntKind.bits] using wi
  exact puts_any A B c1 c2 l m xs ys n i f W hx hy (Lib.hid hr) (Lib.hid hr') hn wi.1 wi.2 b0 b3 hc' hm'
namespace octetPuts
open Go.ChangeShapes Go.WideShapes Go.ChangeAt Go.RowKit
open Go.ChangeMaps (open_string shut_string)
set_option linter.unusedVariables false
theorem own : ownKnob Try.prog.godebug = none := by kernel_rfl
theorem laidOut : laidOutB Try.prog = true := by kernel_rfl
set_option maxRecDepth 100000 in
theorem contract (H : Type) (enc : TypeId × Value → H) (W : World) (base : Nat) (args : Array Value) (ds gs : List (DataW H)) (before : List MemPlace)
    (hval0 : ∀ (j : Nat) t v, Try.f6.params[j]? = some t → args[j]? = some v → Value.okWide Try.prog W .any base t v)
    (hW : DataW.Whole enc Try.prog Try.f6.params.toList Rows.octetPutsSpec.vars false W args.toList ds gs before) (hk : Rows.uptoSmall H (ds ++ gs) = true) :
    Calls Try.prog 6 args W fun e W' => ∃ v, e = .returned v ∧ Rows.octetPutsSpec.post enc Try.prog Try.f6 false true false false W args v W' := by
  have hval : ∀ (j : Nat) t v, Try.f6.params[j]? = some t → args[j]? = some v → Value.okWide Try.prog W .any base t v := hval0
  have hW' := hW
  obtain ⟨p, q, hA0, hV, rfl, hfz, hnd⟩ := hW
  have hA : DataW.TrodAll enc Try.prog W 0 (fun _ => true) true Try.f6.params.toList args.toList ds p := hA0
  rw [Try.params6] at hA hval
  obtain ⟨v0, vs0, d0, ds0, p0, q0, hargs, rfl, rfl, h0, r0⟩ := trodAll_cons hA
  obtain ⟨v1, vs1, d1, ds1, p1, q1, rfl, rfl, rfl, h1, r1⟩ := trodAll_cons r0
  obtain ⟨v2, vs2, d2, ds2, p2, q2, rfl, rfl, rfl, h2, r2⟩ := trodAll_cons r1
  obtain ⟨v3, vs3, d3, ds3, p3, q3, rfl, rfl, rfl, h3, r3⟩ := trodAll_cons r2
  obtain ⟨v4, vs4, d4, ds4, p4, q4, rfl, rfl, rfl, h4, r4⟩ := trodAll_cons r3
  obtain ⟨rfl, rfl, rfl⟩ := trodAll_nil r4
  obtain rfl : args = #[v0, v1, v2, v3, v4] := by cases args; simp_all
  obtain ⟨rfl, rfl⟩ := trodVars_none hV
  have k0 := h0
  have lt0 : ∀ x ∈ p0, x.block < W.heap.size := by obtain ⟨m, hm⟩ := k0; exact DataW.trod_lt m _ _ _ hm
  have k1 := h1
  have lt1 : ∀ x ∈ p1, x.block < W.heap.size := by obtain ⟨m, hm⟩ := k1; exact DataW.trod_lt m _ _ _ hm
  have k2 := h2
  have lt2 : ∀ x ∈ p2, x.block < W.heap.size := by obtain ⟨m, hm⟩ := k2; exact DataW.trod_lt m _ _ _ hm
  have k3 := h3
  have lt3 : ∀ x ∈ p3, x.block < W.heap.size := by obtain ⟨m, hm⟩ := k3; exact DataW.trod_lt m _ _ _ hm
  have k4 := h4
  have lt4 : ∀ x ∈ p4, x.block < W.heap.size := by obtain ⟨m, hm⟩ := k4; exact DataW.trod_lt m _ _ _ hm
  have hk1 := of_decide_eq_true hk
  simp only [List.cons_append, List.nil_append, Rows.uptoBulkAll] at hk1
  obtain ⟨A0, len0, cap0, rfl⟩ := okWide_slice Try.underlying22 (hval 0 22 v0 rfl rfl)
  obtain ⟨z0, w0⟩ := open_in_ints Try.underlying22 Try.underlying5 (by kernel_rfl) h0
  have b0 := ints_small Try.underlying22 Try.underlying5 (by kernel_rfl) h0 (by omega)
  obtain ⟨a1, rfl, rfl, rfl, w1⟩ := open_int Try.underlying30 (hval 1 30 v1 rfl rfl) h1
  obtain ⟨a2, rfl, rfl, rfl, w2⟩ := open_int Try.underlying3 (hval 2 3 v2 rfl rfl) h2
  obtain ⟨A3, len3, cap3, rfl⟩ := okWide_slice Try.underlying22 (hval 3 22 v3 rfl rfl)
  obtain ⟨z3, w3⟩ := open_in_ints Try.underlying22 Try.underlying5 (by kernel_rfl) h3
  have b3 := ints_small Try.underlying22 Try.underlying5 (by kernel_rfl) h3 (by omega)
  obtain ⟨a4, rfl, rfl, rfl⟩ := open_bool Try.underlying4 (hval 4 4 v4 rfl rfl) h4
  clear hA0 hval0
  refine (walk_OctetPuts W A0 len0 cap0 z0 w0 b0 a1 w1 a2 w2 A3 len3 cap3 z3 w3 b3 a4).mono fun e W' ⟨he, bel⟩ => ?_
  subst he
  exact ⟨_, rfl, _, _, _, [], _, [], hW', trodAll_mk1 (shut_bool Try.underlying4 _), (trodAll_cons_mk (Below.trod laidOut (by kernel_rfl) (of_decide_eq_true (by kernel_rfl)) k0 bel lt0) (trodAll_cons_mk (Below.trod laidOut (by kernel_rfl) (of_decide_eq_true (by kernel_rfl)) k1 bel lt1) (trodAll_cons_mk (Below.trod laidOut (by kernel_rfl) (of_decide_eq_true (by kernel_rfl)) k2 bel lt2) (trodAll_cons_mk (Below.trod laidOut (by kernel_rfl) (of_decide_eq_true (by kernel_rfl)) k3 bel lt3) (trodAll_cons_mk (Below.trod laidOut (by kernel_rfl) (of_decide_eq_true (by kernel_rfl)) k4 bel lt4) trodAll_mk0))))), rfl, bel.frame _, fun h => by cases h⟩
set_option maxRecDepth 100000 in
theorem lifted (os : Os) (started : os.Started) (H : Type) (enc : TypeId × Value → H) (F : Stop.Interp) :
    ReturnsInHanded {} Try.checked os 6 .any ((Rows.OpenSpec.upto Rows.octetPutsSpec).pre6 enc Try.prog Try.f6 Rows.octetPutsUptoRow.domain false) (((Rows.OpenSpec.upto Rows.octetPutsSpec).at F).post enc Try.prog Try.f6 false true false false) := by
  refine returnsInHanded_of_cond (C := Try.checked) (s := Rows.OpenSpec.upto Rows.octetPutsSpec) (k := Rows.uptoSmall) rfl own started (by kernel_rfl) Try.func6
    (OpenSpec.witness (enc := enc) (C := Try.checked) (s := Rows.OpenSpec.upto Rows.octetPutsSpec) (k := Rows.uptoSmall) rfl false ⟨#[], #[.slice none 0 0, .int .u64 0, .int .i64 0, .slice none 0 0, .bool false], []⟩ 8 (by kernel_rfl) (by kernel_rfl) (by kernel_rfl)
      (x := ([.nil, .lit (.int .u64 0), .lit (.int .i64 0), .nil, .lit (.bool false)], [], [])) (by kernel_rfl) rfl (by kernel_rfl)) ?_
  intro W base args ds gs before hval hW _ hk _
  exact contract H enc W base args ds gs before hval hW hk
theorem over : Rows.octetPutsUptoRow.holds Try.pinned (Rows.OpenSpec.upto Rows.octetPutsSpec) :=
  OpenClaim.holds_of_cond 6 Try.f6 rfl rfl rfl rfl rfl rfl rfl ⟨rfl, rfl, rfl, rfl, rfl⟩ rfl rfl rfl rfl rfl (by kernel_rfl) Try.func6 (by kernel_rfl)
    (of_decide_eq_true (by kernel_rfl)) (by unfold Func.isWrapper; first | (rw [if_pos (by decide +kernel)]; kernel_rfl) | (rw [if_neg (by decide +kernel)]; exact ⟨rfl, rfl⟩))
    (fun os started H enc _ F => lifted os started H enc F)
/-- THE STATEMENT. -/
theorem proved : Rows.OctetPutsUptoSaid := over
end octetPuts
end Go.Proofs.Ythdmnmpdmniaaaa
