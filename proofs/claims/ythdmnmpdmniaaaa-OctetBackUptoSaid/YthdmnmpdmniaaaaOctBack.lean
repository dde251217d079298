/-
  The law OctetBack: its walk, and the statement.
-/
import Derived.Test.YthdmnmpdmniaaaaOctW8
import Derived.Test.YthdmnmpdmniaaaaOctOneM
namespace Go.Proofs.Ythdmnmpdmniaaaa
open Go.RowKit OctMath
set_option linter.unusedVariables false
theorem u64_nat {b : Int} (h : Lit.wf (.int .u64 b)) : ∃ n : Nat, b = n ∧ n < 18446744073709551616 := by
  have : 0 ≤ b ∧ b ≤ 18446744073709551615 := by simpa [Lit.wf, IntKind.min, IntKind.max, IntKind.signed, IntKind.bits] using h
  exact ⟨b.toNat, by omega, by omega⟩
theorem rdB_put (pre ys rest : List Nat) (hn : ys.length < 18446744073709551616) :
    rdB (pre ++ ((putN ys.length ++ ys) ++ rest)) (pre.length : Nat) (ys.length : Nat) = (ys, ((pre.length + (putN ys.length ++ ys).length : Nat) : Int), 0) := by
  have h := rdN_put pre ys.length (ys ++ rest) hn
  unfold rdB
  rw [List.append_assoc (putN ys.length), h]
  simp only [ne_eq, not_true_eq_false, if_false]
  rw [if_neg (by simp only [List.length_append]; omega)]
  simp only [Int.toNat_natCast]
  refine Prod.ext ?_ (Prod.ext ?_ rfl)
  · show ((pre ++ (putN ys.length ++ (ys ++ rest))).drop (pre.length + (putN ys.length).length)).take ys.length = ys
    rw [← List.append_assoc, ← List.append_assoc, show pre.length + (putN ys.length).length = (pre ++ putN ys.length).length from by simp, List.append_assoc, List.drop_left, List.take_left]
  · show ((pre.length + (putN ys.length).length : Nat) : Int) + (ys.length : Int) = ((pre.length + (putN ys.length ++ ys).length : Nat) : Int)
    rw [List.length_append]; omega
set_option maxRecDepth 100000 in
theorem flag_ok (f : Bool) (A : Option Addr) (cap n k : Nat) (bs : List Nat) (w : World) (hr : Reads w w.heap.size 1 A n (bs.map bv)) (hk : k < n) (hc : n ≤ cap) (hm : cap ≤ maxLen) (hf : bs.getD k 0 = f.toNat) :
    Calls Try.prog 26 #[.slice A n cap, .int .i64 (k : Int)] w fun e w' => e = .returned (.tuple #[.bool f, .int .i64 ((k : Int) + 1), .int .i64 0]) ∧ w = w' := by
  unfold maxLen at hm
  obtain ⟨ad, rfl, hb, hcell⟩ := hr.byteD hk
  rw [hf] at hcell
  clear hf hr
  have d1 : decide ((n : Int) < (k : Int)) = false := decide_eq_false (by omega)
  have d2 : ((k : Int) == (n : Int)) = false := by rw [beq_eq_false_iff_ne]; omega
  cases f
  all_goals
    go_enter Try.func26, Try.ntmps26
    go_wp2
    go_ret3
    exact ⟨rfl, rfl⟩
/-- All that is written, and where its parts begin. -/
structure Put5 (xs ys zs : List Nat) (n : Nat) (i : Int) (f : Bool) (l5 : List Nat) (p q r s : Nat) : Prop where
  num : rdN l5 (xs.length : Nat) = (n, (p : Int), 0)
  int : rdN l5 (p : Int) = (zz i, (q : Int), 0)
  byt : rdB l5 (q : Int) (ys.length : Nat) = (ys, (r : Int), 0)
  flg : l5.getD r 0 = f.toNat
  fin_ : s = r + 1
  in_ : r < l5.length
theorem put5 (xs ys zs : List Nat) (n : Nat) (i : Int) (f : Bool) (hn : n < 18446744073709551616) (hi1 : -9223372036854775808 ≤ i) (hi2 : i ≤ 9223372036854775807) (hy : ys.length < 18446744073709551616) :
    Put5 xs ys zs n i f ((((xs ++ putN n) ++ putN (zz i)) ++ (putN ys.length ++ ys)) ++ [f.toNat] ++ zs) (xs ++ putN n).length ((xs ++ putN n) ++ putN (zz i)).length (((xs ++ putN n) ++ putN (zz i)) ++ (putN ys.length ++ ys)).length (((((xs ++ putN n) ++ putN (zz i)) ++ (putN ys.length ++ ys)) ++ [f.toNat]).length) := by
  refine ⟨?_, ?_, ?_, ?_, ?_, ?_⟩
  · have := rdN_put xs n (putN (zz i) ++ (putN ys.length ++ ys) ++ [f.toNat] ++ zs) hn
    rw [List.length_append]
    rw [← this]; simp only [List.append_assoc]
  · have := rdN_put (xs ++ putN n) (zz i) ((putN ys.length ++ ys) ++ [f.toNat] ++ zs) (zz_lt hi1 hi2)
    rw [@List.length_append _ (xs ++ putN n)]
    rw [← this]; simp only [List.append_assoc]
  · have := rdB_put (xs ++ putN n ++ putN (zz i)) ys ([f.toNat] ++ zs) hy
    rw [@List.length_append _ (xs ++ putN n ++ putN (zz i))]
    rw [← this]; simp only [List.append_assoc]
  · rw [List.getD_eq_getElem?_getD, List.append_assoc (bs := [f.toNat]), List.getElem?_append_right (Nat.le_refl _), Nat.sub_self]
    rfl
  · rw [List.length_append]; rfl
  · rw [List.length_append, List.length_append]; simp; omega
set_option maxRecDepth 100000 in
set_option maxHeartbeats 4000000 in
theorem back_any (A B C : Option Addr) (c1 c2 c3 l m t : Nat) (xs ys zs : List Nat) (n : Nat) (i : Int) (f : Bool) (W : World) (hx : Byt xs) (hy : Byt ys) (hz : Byt zs) (HO : Hid (Reads W W.heap.size 1 A l (xs.map bv))) (HX : Hid (Reads W W.heap.size 1 B m (ys.map bv))) (HZ : Hid (Reads W W.heap.size 1 C t (zs.map bv)))
    (hn : n < 18446744073709551616) (hi1 : -9223372036854775808 ≤ i) (hi2 : i ≤ 9223372036854775807) (hl : l ≤ 1048576) (hm : m ≤ 1048576) (ht : t ≤ 1048576) :
    Calls Try.prog 7 #[.slice A l c1, .int .u64 n, .int .i64 i, .slice B m c2, .bool f, .slice C t c3] W fun e w' => e = .returned (.bool true) ∧ Below W.heap.size W w' := by
  have B1 : Byt (xs ++ putN n) := hx.append (putN_byt _)
  have B2 : Byt ((xs ++ putN n) ++ putN (zz i)) := B1.append (putN_byt _)
  have B3 : Byt (((xs ++ putN n) ++ putN (zz i)) ++ (putN m ++ ys)) := B2.append (Byt.append (putN_byt _) hy)
  have B4 : Byt ((((xs ++ putN n) ++ putN (zz i)) ++ (putN m ++ ys)) ++ [f.toNat]) := B3.append (byt_lit (by cases f <;> decide))
  have B5 : Byt ((((xs ++ putN n) ++ putN (zz i)) ++ (putN m ++ ys)) ++ [f.toNat] ++ zs) := B4.append hz
  have hlx : xs.length = l := (reads_len HO.out).symm
  have hly : ys.length = m := (reads_len HX.out).symm
  have hlz : zs.length = t := (reads_len HZ.out).symm
  have P5 := put5 xs ys zs n i f hn hi1 hi2 (by omega)
  rw [hly] at P5
  have k1 : (xs ++ putN n).length ≤ l + 10 := by have := putN_len10 hn; rw [List.length_append]; omega
  have k2 : ((xs ++ putN n) ++ putN (zz i)).length ≤ l + 20 := by have := putN_len10 (zz_lt hi1 hi2); rw [List.length_append]; omega
  have k3 : (((xs ++ putN n) ++ putN (zz i)) ++ (putN m ++ ys)).length ≤ l + m + 30 := by have := putN_len10 (n := m) (by omega); rw [List.length_append, @List.length_append _ (putN m)]; omega
  have k4 : ((((xs ++ putN n) ++ putN (zz i)) ++ (putN m ++ ys)) ++ [f.toNat]).length ≤ l + m + 31 := by rw [List.length_append, List.length_singleton]; omega
  have k5 : ((((xs ++ putN n) ++ putN (zz i)) ++ (putN m ++ ys)) ++ [f.toNat] ++ zs).length ≤ l + m + t + 31 := by rw [List.length_append]; omega
  obtain ⟨l1, e1⟩ : ∃ l, xs ++ putN n = l := ⟨_, rfl⟩
  rw [e1] at B1 B2 B3 B4 B5 P5 k1 k2 k3 k4 k5
  obtain ⟨l2, e2⟩ : ∃ l, l1 ++ putN (zz i) = l := ⟨_, rfl⟩
  rw [e2] at B2 B3 B4 B5 P5 k2 k3 k4 k5
  obtain ⟨l3, e3⟩ : ∃ l, l2 ++ (putN m ++ ys) = l := ⟨_, rfl⟩
  rw [e3] at B3 B4 B5 P5 k3 k4 k5
  obtain ⟨l4, e4⟩ : ∃ l, l3 ++ [f.toNat] = l := ⟨_, rfl⟩
  rw [e4] at B4 B5 P5 k4 k5
  obtain ⟨l5, e5⟩ : ∃ l, l4 ++ zs = l := ⟨_, rfl⟩
  rw [e5] at B5 P5 k5
  have E1 := Lib.hid e1
  have E2 := Lib.hid e2
  have E3 := Lib.hid e3
  have E4 := Lib.hid e4
  have E5 := Lib.hid e5
  have HLX := Lib.hid hlx
  have HLY := Lib.hid hly
  have HLZ := Lib.hid hlz
  have PP := Lib.hid P5
  clear e1 e2 e3 e4 e5 hlx hly hlz P5
  go_enter Try.func7, Try.ntmps7
  go_wp2_with fail

  refine (putnumB A c1 l xs _ HO n hn (by omega)).mono ?_
  rintro e w1 ⟨Aa, na, ca, rfl, Ha, hg, ga1, ga2⟩
  rw [E1.out] at Ha
  obtain ⟨Na, eNa⟩ : ∃ N, l1.length = N := ⟨_, rfl⟩
  have eqna := (reads_len Ha.out).trans eNa
  subst eqna
  rw [eNa] at k1 PP
  have ESa := Lib.hid eNa
  clear eNa
  have hb1 : Below W.heap.size W w1 := hg
  have HO := hgrow HO hg
  have HX := hgrow HX hg
  have HZ := hgrow HZ hg
  clear hg 
  go_wp2_with fail
  refine (putintB Aa ca na l1 _ Ha i hi1 hi2 (by omega)).mono ?_
  rintro e w2 ⟨Ab, nb, cb, rfl, Hb, hg, gb1, gb2⟩
  rw [E2.out] at Hb
  obtain ⟨Nb, eNb⟩ : ∃ N, l2.length = N := ⟨_, rfl⟩
  have eqnb := (reads_len Hb.out).trans eNb
  subst eqnb
  rw [eNb] at k2 PP
  have ESb := Lib.hid eNb
  clear eNb
  have hb2 : Below W.heap.size W w2 := hb1.trans (hg.mono hb1.size)
  have HO := hgrow HO hg
  have HX := hgrow HX hg
  have HZ := hgrow HZ hg
  have Ha := hgrow Ha hg
  clear hg hb1
  go_wp2_with fail
  refine (putbytesB Ab cb nb l2 _ Hb B c2 m ys HX (by omega)).mono ?_
  rintro e w3 ⟨Ac, nc, cc, rfl, Hc, hg, gc1, gc2⟩
  rw [E3.out] at Hc
  obtain ⟨Nc, eNc⟩ : ∃ N, l3.length = N := ⟨_, rfl⟩
  have eqnc := (reads_len Hc.out).trans eNc
  subst eqnc
  rw [eNc] at k3 PP
  have ESc := Lib.hid eNc
  clear eNc
  have hb3 : Below W.heap.size W w3 := hb2.trans (hg.mono hb2.size)
  have HO := hgrow HO hg
  have HX := hgrow HX hg
  have HZ := hgrow HZ hg
  have Ha := hgrow Ha hg
  have Hb := hgrow Hb hg
  clear hg hb2
  go_wp2_with fail
  refine (putflagB Ac cc nc l3 _ Hc f (by omega)).mono ?_
  rintro e w4 ⟨Ad, nd, cd, rfl, Hd, hg, gd1, gd2⟩
  rw [E4.out] at Hd
  obtain ⟨Nd, eNd⟩ : ∃ N, l4.length = N := ⟨_, rfl⟩
  have eqnd := (reads_len Hd.out).trans eNd
  subst eqnd
  rw [eNd] at k4 PP
  have ESd := Lib.hid eNd
  clear eNd
  have hb4 : Below W.heap.size W w4 := hb3.trans (hg.mono hb3.size)
  have HO := hgrow HO hg
  have HX := hgrow HX hg
  have HZ := hgrow HZ hg
  have Ha := hgrow Ha hg
  have Hb := hgrow Hb hg
  have Hc := hgrow Hc hg
  clear hg hb3
  go_wp2_with fail
  refine (copy_any Ad cd nd (l4.map bv) _ Hd.out (bv_one l4) (by omega)).mono ?_
  intro e w5 h
  obtain ⟨A5, c5, rfl, hr5, -, -, hg, ho5⟩ := h.open
  rw [List.length_map, ESd.out] at hr5 ho5 ⊢
  have HX4 := HX
  have HZ := hgrow HZ hg
  have HG := Lib.hid hg
  have HR5 := Lib.hid ho5
  clear h hr5 hg ho5 HO Ha Hb Hc Hd
  go_wp2_with (at_builtin
               refine wpl_append rfl (.tmp 51) (.tmp 52) _ rfl w4 w4.heap.size 5 _ 1 1 Try.underlying22 Try.infoU8 rfl (by decide) (.slice A5 nd c5) nd (l4.map bv) rfl ?own w5.heap.size C t c3 (zs.map bv) rfl ?rd (bv_one zs) (by omega) (by decide) ?bel ?base ?_
               case own => exact HR5.out
               case rd => exact HZ.out
               case bel => exact HG.out
               case base => exact HG.out.size
               intro v6 w6 hh
               have ho := hh.out.1
               rw [← List.map_append, E5.out] at ho
               have hb6 : Below w4.heap.size w4 w6 := hh.out.2.1
               obtain ⟨A6, c6, rfl, hc6, hm6⟩ := own_slice ho
               have H6 := Lib.hid (Reads.of_own ho)
               have K6 := Lib.hid (ho.1)
               clear hh ho)
  have N6 : nd + t = l5.length := by have := K6.out; rw [List.length_map] at this; omega
  rw [← N6] at k5
  have EN6 := Lib.hid N6
  have hb7 : Below W.heap.size W w6 := hb4.trans (hb6.mono hb4.size)
  have HX := hgrow HX4 hb6
  clear N6 hb4 hb6 HX4 HR5 HZ HG
  have PQ := PP.out
  have p1 := PQ.num
  have p2 := PQ.int
  have p3 := PQ.byt
  have p4 := PQ.flg
  have p5 := PQ.fin_
  have p6 := PQ.in_
  rw [HLX.out] at p1
  rw [HLY.out] at p3
  rw [← EN6.out] at p6
  have r1 := fun w => number_any A6 c6 (nd + t) (l : Int) l5 w B5 EN6.out.symm
  have r2 := fun w => int_any A6 c6 (nd + t) (na : Int) l5 w B5 EN6.out.symm
  have r3 := fun w => bytes_any A6 c6 (nd + t) (nb : Int) (m : Int) l5 w B5 EN6.out.symm
  rw [p1] at r1
  rw [p2] at r2
  rw [p3] at r3
  simp only [unz_zz] at r2
  have R1 := Lib.hid r1
  have R2 := Lib.hid r2
  have R3 := Lib.hid r3
  have P4 := Lib.hid p4
  have Q5 := Lib.hid p5
  clear r1 r2 r3 p1 p2 p3 p4 p5 PQ
  refine (R1.out _ H6.out hc6 hm6).mono ?_
  rintro e w' ⟨rfl, rfl⟩
  go_wp2_with fail
  refine (R2.out _ H6.out hc6 hm6).mono ?_
  rintro e w' ⟨rfl, rfl⟩
  go_wp2_with fail
  refine (R3.out _ H6.out hc6 hm6 (by omega) (by omega)).mono ?_
  rintro e w7 ⟨A7, n7, c7, rfl, hr7, hc7, hm7, hg⟩
  have H7 := Lib.hid hr7
  have H6 := hgrow H6 hg
  have HX := hgrow HX hg
  have hb8 : Below W.heap.size W w7 := hb7.trans (hg.mono hb7.size)
  clear hr7 hb7 hg
  go_wp2_with fail
  refine (flag_ok f A6 c6 (nd + t) nc l5 _ H6.out p6 hc6 hm6 P4.out).mono ?_
  rintro e w' ⟨rfl, rfl⟩
  have es : ((nc : Int) + 1) = (nd : Int) := by have := Q5.out; omega
  rw [es]
  clear es
  go_wp2_with fail
  refine (sameB A7 c7 n7 ys _ H7 hy B c2 m HX).mono ?_
  rintro e w' ⟨rfl, rfl⟩
  clear H7 HX H6
  go_wp2_with fail
  refine (heads_any _).mono ?_
  rintro e w' ⟨rfl, hg⟩
  go_wp2
  go_ret
  exact ⟨rfl, hb8.trans (hg.mono hb8.size)⟩
theorem walk_OctetBack (W : World) (A : Option Addr) (l c1 : Nat) (z : List Int) (hA : Ints .u8 W A l c1 z) (b0 : l ≤ 1048576) (n : Int) (wn : Lit.wf (.int .u64 n)) (i : Int) (wi : Lit.wf (.int .i64 i)) (B : Option Addr) (m c2 : Nat) (z' : List Int) (hB : Ints .u8 W B m c2 z') (b3 : m ≤ 1048576) (f : Bool)
    (C : Option Addr) (t c3 : Nat) (z2 : List Int) (hC : Ints .u8 W C t c3 z2) (b5 : t ≤ 1048576) :
    Calls Try.prog 7 #[.slice A l c1, .int .u64 n, .int .i64 i, .slice B m c2, .bool f, .slice C t c3] W fun e w' => e = .returned (.bool true) ∧ Below W.heap.size W w' := by
  obtain ⟨n, rfl, hn⟩ := u64_nat wn
  obtain ⟨xs, hx, hxl, hr, hc, hm⟩ := hA.bytes
  obtain ⟨ys, hy, hyl, hr', hc', hm'⟩ := hB.bytes
  obtain ⟨zs, hz, hzl, hr2, hc2, hm2⟩ := hC.bytes
  have wi : -9223372036854775808 ≤ i ∧ i ≤ 9223372036854775807 := by simpa [Lit.wf, IntKind.min, IntKind.max, IntKind.signed, IntKind.bits] using wi
  exact back_any A B C c1 c2 c3 l m t xs ys zs n i f W hx hy hz (Lib.hid hr) (Lib.hid hr') (Lib.hid hr2) hn wi.1 wi.2 b0 b3 b5
namespace octetBack
open Go.ChangeShapes Go.WideShapes Go.ChangeAt Go.RowKit
open Go.ChangeMaps (open_string shut_string)
set_option linter.unusedVariables false
theorem own : ownKnob Try.prog.godebug = none := by kernel_rfl
theorem laidOut : laidOutB Try.prog = true := by kernel_rfl
set_option maxRecDepth 100000 in
theorem contract (H : Type) (enc : TypeId × Value → H) (W : World) (base : Nat) (args : Array Value) (ds gs : List (DataW H)) (before : List MemPlace)
    (hval0 : ∀ (j : Nat) t v, Try.f7.params[j]? = some t → args[j]? = some v → Value.okWide Try.prog W .any base t v)
    (hW : DataW.Whole enc Try.prog Try.f7.params.toList Rows.octetBackSpec.vars false W args.toList ds gs before) (hk : Rows.uptoSmall H (ds ++ gs) = true) :
    Calls Try.prog 7 args W fun e W' => ∃ v, e = .returned v ∧ Rows.octetBackSpec.post enc Try.prog Try.f7 false true false false W args v W' := by
  have hval : ∀ (j : Nat) t v, Try.f7.params[j]? = some t → args[j]? = some v → Value.okWide Try.prog W .any base t v := hval0
  have hW' := hW
  obtain ⟨p, q, hA0, hV, rfl, hfz, hnd⟩ := hW
  have hA : DataW.TrodAll enc Try.prog W 0 (fun _ => true) true Try.f7.params.toList args.toList ds p := hA0
  rw [Try.params7] at hA hval
  obtain ⟨v0, vs0, d0, ds0, p0, q0, hargs, rfl, rfl, h0, r0⟩ := trodAll_cons hA
  obtain ⟨v1, vs1, d1, ds1, p1, q1, rfl, rfl, rfl, h1, r1⟩ := trodAll_cons r0
  obtain ⟨v2, vs2, d2, ds2, p2, q2, rfl, rfl, rfl, h2, r2⟩ := trodAll_cons r1
  obtain ⟨v3, vs3, d3, ds3, p3, q3, rfl, rfl, rfl, h3, r3⟩ := trodAll_cons r2
  obtain ⟨v4, vs4, d4, ds4, p4, q4, rfl, rfl, rfl, h4, r4⟩ := trodAll_cons r3
  obtain ⟨v5, vs5, d5, ds5, p5, q5, rfl, rfl, rfl, h5, r5⟩ := trodAll_cons r4
  obtain ⟨rfl, rfl, rfl⟩ := trodAll_nil r5
  obtain rfl : args = #[v0, v1, v2, v3, v4, v5] := by cases args; simp_all
  obtain ⟨rfl, rfl⟩ := trodVars_none hV
  have k0 := h0
  have lt0 : ∀ x ∈ p0, x.block < W.heap.size := by obtain ⟨m, hm⟩ := k0; exact DataW.trod_lt m _ _ _ hm
  have k1 := h1
  have lt1 : ∀ x ∈ p1, x.block < W.heap.size := by obtain ⟨m, hm⟩ := k1; exact DataW.trod_lt m _ _ _ hm
  have k2 := h2
  have lt2 : ∀ x ∈ p2, x.block < W.heap.size := by obtain ⟨m, hm⟩ := k2; exact DataW.trod_lt m _ _ _ hm
  have k3 := h3
  have lt3 : ∀ x ∈ p3, x.block < W.heap.size := by obtain ⟨m, hm⟩ := k3; exact DataW.trod_lt m _ _ _ hm
  have k4 := h4
  have lt4 : ∀ x ∈ p4, x.block < W.heap.size := by obtain ⟨m, hm⟩ := k4; exact DataW.trod_lt m _ _ _ hm
  have k5 := h5
  have lt5 : ∀ x ∈ p5, x.block < W.heap.size := by obtain ⟨m, hm⟩ := k5; exact DataW.trod_lt m _ _ _ hm
  have hk1 := of_decide_eq_true hk
  simp only [List.cons_append, List.nil_append, Rows.uptoBulkAll] at hk1
  obtain ⟨A0, len0, cap0, rfl⟩ := okWide_slice Try.underlying22 (hval 0 22 v0 rfl rfl)
  obtain ⟨z0, w0⟩ := open_in_ints Try.underlying22 Try.underlying5 (by kernel_rfl) h0
  have b0 := ints_small Try.underlying22 Try.underlying5 (by kernel_rfl) h0 (by omega)
  obtain ⟨a1, rfl, rfl, rfl, w1⟩ := open_int Try.underlying30 (hval 1 30 v1 rfl rfl) h1
  obtain ⟨a2, rfl, rfl, rfl, w2⟩ := open_int Try.underlying3 (hval 2 3 v2 rfl rfl) h2
  obtain ⟨A3, len3, cap3, rfl⟩ := okWide_slice Try.underlying22 (hval 3 22 v3 rfl rfl)
  obtain ⟨z3, w3⟩ := open_in_ints Try.underlying22 Try.underlying5 (by kernel_rfl) h3
  have b3 := ints_small Try.underlying22 Try.underlying5 (by kernel_rfl) h3 (by omega)
  obtain ⟨a4, rfl, rfl, rfl⟩ := open_bool Try.underlying4 (hval 4 4 v4 rfl rfl) h4
  obtain ⟨A5, len5, cap5, rfl⟩ := okWide_slice Try.underlying22 (hval 5 22 v5 rfl rfl)
  obtain ⟨z5, w5⟩ := open_in_ints Try.underlying22 Try.underlying5 (by kernel_rfl) h5
  have b5 := ints_small Try.underlying22 Try.underlying5 (by kernel_rfl) h5 (by omega)
  clear hA0 hval0
  refine (walk_OctetBack W A0 len0 cap0 z0 w0 b0 a1 w1 a2 w2 A3 len3 cap3 z3 w3 b3 a4 A5 len5 cap5 z5 w5 b5).mono fun e W' ⟨he, bel⟩ => ?_
  subst he
  exact ⟨_, rfl, _, _, _, [], _, [], hW', trodAll_mk1 (shut_bool Try.underlying4 _), (trodAll_cons_mk (Below.trod laidOut (by kernel_rfl) (of_decide_eq_true (by kernel_rfl)) k0 bel lt0) (trodAll_cons_mk (Below.trod laidOut (by kernel_rfl) (of_decide_eq_true (by kernel_rfl)) k1 bel lt1) (trodAll_cons_mk (Below.trod laidOut (by kernel_rfl) (of_decide_eq_true (by kernel_rfl)) k2 bel lt2) (trodAll_cons_mk (Below.trod laidOut (by kernel_rfl) (of_decide_eq_true (by kernel_rfl)) k3 bel lt3) (trodAll_cons_mk (Below.trod laidOut (by kernel_rfl) (of_decide_eq_true (by kernel_rfl)) k4 bel lt4) (trodAll_cons_mk (Below.trod laidOut (by kernel_rfl) (of_decide_eq_true (by kernel_rfl)) k5 bel lt5) trodAll_mk0)))))), rfl, bel.frame _, fun h => by cases h⟩
set_option maxRecDepth 100000 in
theorem lifted (os : Os) (started : os.Started) (H : Type) (enc : TypeId × Value → H) (F : Stop.Interp) :
    ReturnsInHanded {} Try.checked os 7 .any ((Rows.OpenSpec.upto Rows.octetBackSpec).pre6 enc Try.prog Try.f7 Rows.octetBackUptoRow.domain false) (((Rows.OpenSpec.upto Rows.octetBackSpec).at F).post enc Try.prog Try.f7 false true false false) := by
  refine returnsInHanded_of_cond (C := Try.checked) (s := Rows.OpenSpec.upto Rows.octetBackSpec) (k := Rows.uptoSmall) rfl own started (by kernel_rfl) Try.func7
    (OpenSpec.witness (enc := enc) (C := Try.checked) (s := Rows.OpenSpec.upto Rows.octetBackSpec) (k := Rows.uptoSmall) rfl false ⟨#[], #[.slice none 0 0, .int .u64 0, .int .i64 0, .slice none 0 0, .bool false, .slice none 0 0], []⟩ 8 (by kernel_rfl) (by kernel_rfl) (by kernel_rfl)
      (x := ([.nil, .lit (.int .u64 0), .lit (.int .i64 0), .nil, .lit (.bool false), .nil], [], [])) (by kernel_rfl) rfl (by kernel_rfl)) ?_
  intro W base args ds gs before hval hW _ hk _
  exact contract H enc W base args ds gs before hval hW hk
theorem over : Rows.octetBackUptoRow.holds Try.pinned (Rows.OpenSpec.upto Rows.octetBackSpec) :=
  OpenClaim.holds_of_cond 7 Try.f7 rfl rfl rfl rfl rfl rfl rfl ⟨rfl, rfl, rfl, rfl, rfl⟩ rfl rfl rfl rfl rfl (by kernel_rfl) Try.func7 (by kernel_rfl)
    (of_decide_eq_true (by kernel_rfl)) (by unfold Func.isWrapper; first | (rw [if_pos (by decide +kernel)]; kernel_rfl) | (rw [if_neg (by decide +kernel)]; exact ⟨rfl, rfl⟩))
    (fun os started H enc _ F => lifted os started H enc F)
/-- THE STATEMENT. -/
theorem proved : Rows.OctetBackUptoSaid := over
end octetBack
end Go.Proofs.Ythdmnmpdmniaaaa
