/-
  OctetEven holds for every three rows of bytes: the sums of three rows of one length make that of their sum.
-/
import Derived.Test.YthdmnmpdmniaaaaOctW7
namespace Go.Proofs.Ythdmnmpdmniaaaa
open Go.RowKit OctMath
set_option linter.unusedVariables false
def sum3 (xs ys zs : List Nat) : List Nat := List.zipWith (fun a b => a ^^^ b) (List.zipWith (fun a b => a ^^^ b) xs ys) zs
theorem sum3_len (xs ys zs : List Nat) (n : Nat) (h1 : xs.length = n) (h2 : ys.length = n) (h3 : zs.length = n) : (sum3 xs ys zs).length = n := by simp [sum3, h1, h2, h3]
theorem sum3_getD (xs ys zs : List Nat) (n k : Nat) (h1 : xs.length = n) (h2 : ys.length = n) (h3 : zs.length = n) (hk : k < n) : (sum3 xs ys zs).getD k 0 = (xs.getD k 0 ^^^ ys.getD k 0) ^^^ zs.getD k 0 := by
  unfold sum3
  simp only [List.getD_eq_getElem?_getD, List.getElem?_zipWith]
  rw [List.getElem?_eq_getElem (show k < xs.length by omega), List.getElem?_eq_getElem (show k < ys.length by omega), List.getElem?_eq_getElem (show k < zs.length by omega)]
  rfl
theorem sum3_byt {xs ys zs : List Nat} (n : Nat) (h1 : xs.length = n) (h2 : ys.length = n) (h3 : zs.length = n) (hx : Byt xs) (hy : Byt ys) (hz : Byt zs) : Byt (sum3 xs ys zs) := by
  intro v hv
  obtain ⟨i, hi, rfl⟩ := List.getElem_of_mem hv
  have hl := sum3_len xs ys zs n h1 h2 h3
  have := sum3_getD xs ys zs n i h1 h2 h3 (by omega)
  rw [List.getD_eq_getElem?_getD, List.getElem?_eq_getElem hi] at this
  have e : (sum3 xs ys zs)[i] = (xs.getD i 0 ^^^ ys.getD i 0) ^^^ zs.getD i 0 := this
  rw [e]
  exact Nat.xor_lt_two_pow (n := 8) (Nat.xor_lt_two_pow (n := 8) (hx.getD i) (hy.getD i)) (hz.getD i)
def EvenRel (w : World) (S : List Nat) (k : Nat) (v : Value) (wr : World) : Prop := wr.ownsRow w.heap.size 5 1 v k ((S.take k).map bv) ∧ Below w.heap.size w wr
set_option maxRecDepth 100000 in
set_option maxHeartbeats 2000000 in
theorem even_same (A B C : Option Addr) (c1 c2 c3 n : Nat) (xs ys zs : List Nat) (w : World) (hx : Byt xs) (hy : Byt ys) (hz : Byt zs) (h1 : xs.length = n) (h2 : ys.length = n) (h3 : zs.length = n)
    (hr1 : Reads w w.heap.size 1 A n (xs.map bv)) (hr2 : Reads w w.heap.size 1 B n (ys.map bv)) (hr3 : Reads w w.heap.size 1 C n (zs.map bv)) (hm : n ≤ 140737488351232) :
    Calls Try.prog 3 #[.slice A n c1, .slice B n c2, .slice C n c3] w fun e w' => e = .returned (.bool true) ∧ Below w.heap.size w w' := by
  have R1 := Lib.hid hr1
  have R2 := Lib.hid hr2
  have R3 := Lib.hid hr3
  clear hr1 hr2 hr3
  have hSl := sum3_len xs ys zs n h1 h2 h3
  have hSb := sum3_byt n h1 h2 h3 hx hy hz
  have hSg := sum3_getD xs ys zs n
  have hSc : crc (sum3 xs ys zs) = (crc xs ^^^ crc ys) ^^^ crc zs := crc_even xs ys zs (by omega) (by omega)
  obtain ⟨S, hS⟩ : ∃ S, sum3 xs ys zs = S := ⟨_, rfl⟩
  rw [hS] at hSl hSb hSg hSc
  have HG := Lib.hid hSg
  have HC := Lib.hid hSc
  have hc1 := crcS_lt xs (c := 4294967295) (by decide) hx
  have hc2 := crcS_lt ys (c := 4294967295) (by decide) hy
  have hc3 := crcS_lt zs (c := 4294967295) (by decide) hz
  clear hS hSg hSc
  go_enter Try.func3, Try.ntmps3
  go_wp2
  go_loopw [7, 8] (fun v vi wr => ∃ k : Nat, k ≤ n ∧ vi = .int .i64 k ∧ EvenRel w S k v wr) (fun _ vi _ => n - (intOf vi).toNat)
  case atStart => exact ⟨0, by omega, rfl, World.ownsRow_nil _ _ _ _, Below.refl _ _⟩
  case round =>
    obtain ⟨k, hk, rfl, hO, hB⟩ := hrel
    have HO := Lib.hid hO
    clear hO
    by_cases hlt : k < n
    · obtain ⟨a1, rfl, _, f1⟩ := (R1.out.below hB).byteD hlt
      obtain ⟨a2, rfl, _, f2⟩ := (R2.out.below hB).byteD hlt
      obtain ⟨a3, rfl, _, f3⟩ := (R3.out.below hB).byteD hlt
      have l1 := hx.getD k
      have l2 := hy.getD k
      have l3 := hz.getD k
      have hs := HG.out k h1 h2 h3 hlt
      have ht := take_snocD S k (by omega)
      obtain ⟨x, ex⟩ : ∃ x, xs.getD k 0 = x := ⟨_, rfl⟩
      obtain ⟨y, ey⟩ : ∃ y, ys.getD k 0 = y := ⟨_, rfl⟩
      obtain ⟨z, ez⟩ : ∃ z, zs.getD k 0 = z := ⟨_, rfl⟩
      rw [ex] at f1 l1 hs
      rw [ey] at f2 l2 hs
      rw [ez] at f3 l3 hs
      rw [hs] at ht
      have x1 := u8_xor_nat x y l1 l2
      have l4 : x ^^^ y < 256 := Nat.xor_lt_two_pow (n := 8) l1 l2
      obtain ⟨xy, exy⟩ : ∃ xy, x ^^^ y = xy := ⟨_, rfl⟩
      rw [exy] at x1 l4 ht
      have x2 := u8_xor_nat xy z l4 l3
      obtain ⟨d, ed⟩ : ∃ d, xy ^^^ z = d := ⟨_, rfl⟩
      rw [ed] at x2 ht
      have HT := Lib.hid ht
      clear ht hs ex ey ez exy ed
      go_wp2
      go_region_law (first
        | (refine step_append rfl (.tmp 28) (.tmp 43) _ rfl w w.heap.size 5 _ 1 1 Try.underlying22 Try.infoU8 rfl (by decide) u7 k ((S.take k).map bv) (by simp [Act.eval]) (by exact (HO.out.alloc _).drew) (wr.heap.size + 1) (some ⟨wr.heap.size, 0, none⟩) 1 1 [bv d] (by simp [Act.eval]) (by exact (Reads.lit1 wr 5 (bv d)).drew) (bv_one [d]) (by omega) (by decide) (by exact (hB.alloc hB.size _).drew) (by simp; exact Nat.le_succ_of_le hB.size) ?_
           intro v1 w1 hh))
      all_goals
        go_wp2
        exact ⟨⟨k + 1, by omega, by go_num, by rw [HT.out, List.map_append]; exact hh.out.1, hh.out.2.1⟩, by simp [intOf]; omega⟩
    · obtain rfl : k = n := by omega
      obtain ⟨A4, c4, rfl, _, _⟩ := own_slice HO.out
      have hr4 := Reads.of_own HO.out
      rw [List.take_of_length_le (by omega)] at hr4
      have R4 := Lib.hid hr4
      clear hr4 HO
      go_wp2_with fail
      refine (crc_any A c1 k xs _ hx h1 ((R1.out.below hB).more hB.size) (by unfold maxLen; omega)).mono ?_
      rintro e wa ⟨rfl, ha⟩
      go_wp2_with fail
      refine (crc_any B c2 k ys _ hy h2 (((R2.out.below hB).more hB.size).later ha) (by unfold maxLen; omega)).mono ?_
      rintro e wb ⟨rfl, hb⟩
      go_wp2_with fail
      refine (crc_any C c3 k zs _ hz h3 ((((R3.out.below hB).more hB.size).later ha).later hb) (by unfold maxLen; omega)).mono ?_
      rintro e wc ⟨rfl, hc⟩
      have y1 : crc xs < 4294967296 := xor_lt32 (by decide) hc1
      have y2 : crc ys < 4294967296 := xor_lt32 (by decide) hc2
      have y3 : crc zs < 4294967296 := xor_lt32 (by decide) hc3
      have x1 := xor32 (crc xs) (crc ys) y1 y2
      have x2 := xor32 (crc xs ^^^ crc ys) (crc zs) (xor_lt32 y1 y2) y3
      rw [← HC.out] at x2
      go_wp2_with fail
      refine (crc_any A4 c4 k S _ hSb hSl (((R4.out.later ha).later hb).later hc) (by unfold maxLen; omega)).mono ?_
      rintro e wd ⟨rfl, hd⟩
      go_wp2_with (go_at_call 8; refine (heads_any _).mono ?_; rintro e we ⟨rfl, he⟩)
      go_ret
      exact ⟨rfl, bel_trans hB (bel_trans ha (bel_trans hb (bel_trans hc (bel_trans hd he))))⟩
set_option maxRecDepth 100000 in
set_option maxHeartbeats 2000000 in
theorem even_else (A B C : Option Addr) (c1 c2 c3 n m l : Nat) (w : World) (h : n ≠ m ∨ n ≠ l) (h1 : n ≤ maxLen) (h2 : m ≤ maxLen) (h3 : l ≤ maxLen) :
    Calls Try.prog 3 #[.slice A n c1, .slice B m c2, .slice C l c3] w fun e w' => e = .returned (.bool true) ∧ Below w.heap.size w w' := by
  by_cases hn : n = m
  · have b1 : ((n : Int) != (m : Int)) = false := by rw [hn]; simp
    have b2 : ((n : Int) != (l : Int)) = true := by rw [bne_iff_ne]; omega
    clear h hn
    go_enter Try.func3, Try.ntmps3
    go_wp2_with (go_at_call 8; refine (heads_any _).mono ?_; rintro e we ⟨rfl, he⟩)
    go_ret
    exact ⟨rfl, he⟩
  · have b1 : ((n : Int) != (m : Int)) = true := by rw [bne_iff_ne]; omega
    clear h hn
    go_enter Try.func3, Try.ntmps3
    go_wp2_with (go_at_call 8; refine (heads_any _).mono ?_; rintro e we ⟨rfl, he⟩)
    go_ret
    exact ⟨rfl, he⟩
theorem walk_OctetEven (W : World) (A : Option Addr) (n cap : Nat) (z : List Int) (h : Ints .u8 W A n cap z) (s : n * 1 ≤ 140737488351232) (B : Option Addr) (m cap' : Nat) (z' : List Int) (h' : Ints .u8 W B m cap' z') (s' : m * 1 ≤ 140737488351232) (C : Option Addr) (l cap'' : Nat) (z'' : List Int) (h'' : Ints .u8 W C l cap'' z'') (s'' : l * 1 ≤ 140737488351232) :
    Calls Try.prog 3 #[.slice A n cap, .slice B m cap', .slice C l cap''] W fun e w' => e = .returned (.bool true) ∧ Below W.heap.size W w' := by
  obtain ⟨xs, hx, hl, hr, _, _⟩ := h.bytes
  obtain ⟨ys, hy, hl', hr', _, _⟩ := h'.bytes
  obtain ⟨zs, hz, hl'', hr'', _, _⟩ := h''.bytes
  by_cases e : n ≠ m ∨ n ≠ l
  · exact even_else A B C cap cap' cap'' n m l W e (by unfold maxLen; omega) (by unfold maxLen; omega) (by unfold maxLen; omega)
  · obtain rfl : n = m := by omega
    obtain rfl : n = l := by omega
    exact even_same A B C cap cap' cap'' n xs ys zs W hx hy hz hl hl' hl'' hr hr' hr'' (by omega)
namespace octetEven
open Go.ChangeShapes Go.WideShapes Go.ChangeAt Go.RowKit
open Go.ChangeMaps (open_string shut_string)
set_option linter.unusedVariables false
theorem own : ownKnob Try.prog.godebug = none := by kernel_rfl
theorem laidOut : laidOutB Try.prog = true := by kernel_rfl
set_option maxRecDepth 100000 in
theorem contract (H : Type) (enc : TypeId × Value → H) (W : World) (base : Nat) (args : Array Value) (ds gs : List (DataW H)) (before : List MemPlace)
    (hval0 : ∀ (j : Nat) t v, Try.f3.params[j]? = some t → args[j]? = some v → Value.okWide Try.prog W .any base t v)
    (hW : DataW.Whole enc Try.prog Try.f3.params.toList Rows.octetEvenSpec.vars false W args.toList ds gs before) (hsz : (DataW.weightsEach Try.prog (Try.f3.params.toList ++ Rows.octetEvenSpec.plain.varTypes Try.prog) (ds ++ gs)).all (· ≤ reachBytes) = true) :
    Calls Try.prog 3 args W fun e W' => ∃ v, e = .returned v ∧ Rows.octetEvenSpec.post enc Try.prog Try.f3 false true false false W args v W' := by
  have hval : ∀ (j : Nat) t v, Try.f3.params[j]? = some t → args[j]? = some v → Value.okWide Try.prog W .any base t v := hval0
  have hW' := hW
  obtain ⟨p, q, hA0, hV, rfl, hfz, hnd⟩ := hW
  have hA : DataW.TrodAll enc Try.prog W 0 (fun _ => true) true Try.f3.params.toList args.toList ds p := hA0
  rw [Try.params3] at hA hval
  obtain ⟨v0, vs0, d0, ds0, p0, q0, hargs, rfl, rfl, h0, r0⟩ := trodAll_cons hA
  obtain ⟨v1, vs1, d1, ds1, p1, q1, rfl, rfl, rfl, h1, r1⟩ := trodAll_cons r0
  obtain ⟨v2, vs2, d2, ds2, p2, q2, rfl, rfl, rfl, h2, r2⟩ := trodAll_cons r1
  obtain ⟨rfl, rfl, rfl⟩ := trodAll_nil r2
  obtain rfl : args = #[v0, v1, v2] := by cases args; simp_all
  obtain ⟨rfl, rfl⟩ := trodVars_none hV
  have k0 := h0
  have lt0 : ∀ x ∈ p0, x.block < W.heap.size := by obtain ⟨m, hm⟩ := k0; exact DataW.trod_lt m _ _ _ hm
  have k1 := h1
  have lt1 : ∀ x ∈ p1, x.block < W.heap.size := by obtain ⟨m, hm⟩ := k1; exact DataW.trod_lt m _ _ _ hm
  have k2 := h2
  have lt2 : ∀ x ∈ p2, x.block < W.heap.size := by obtain ⟨m, hm⟩ := k2; exact DataW.trod_lt m _ _ _ hm
  obtain ⟨A0, len0, cap0, rfl⟩ := okWide_slice Try.underlying22 (hval 0 22 v0 rfl rfl)
  obtain ⟨z0, w0⟩ := open_in_ints Try.underlying22 Try.underlying5 (by kernel_rfl) h0
  have s0 := ints_reach (b := 1) Try.underlying22 Try.underlying5 (by kernel_rfl) h0 (fun el sr hd => by have := sized_slice hsz (j := 0) (t := 22) (e := 5) (elems := el) (spare := sr) rfl (by subst hd; rfl) Try.underlying22; rwa [show Try.prog.bytesOf 5 = 1 from by kernel_rfl] at this)
  obtain ⟨A1, len1, cap1, rfl⟩ := okWide_slice Try.underlying22 (hval 1 22 v1 rfl rfl)
  obtain ⟨z1, w1⟩ := open_in_ints Try.underlying22 Try.underlying5 (by kernel_rfl) h1
  have s1 := ints_reach (b := 1) Try.underlying22 Try.underlying5 (by kernel_rfl) h1 (fun el sr hd => by have := sized_slice hsz (j := 1) (t := 22) (e := 5) (elems := el) (spare := sr) rfl (by subst hd; rfl) Try.underlying22; rwa [show Try.prog.bytesOf 5 = 1 from by kernel_rfl] at this)
  obtain ⟨A2, len2, cap2, rfl⟩ := okWide_slice Try.underlying22 (hval 2 22 v2 rfl rfl)
  obtain ⟨z2, w2⟩ := open_in_ints Try.underlying22 Try.underlying5 (by kernel_rfl) h2
  have s2 := ints_reach (b := 1) Try.underlying22 Try.underlying5 (by kernel_rfl) h2 (fun el sr hd => by have := sized_slice hsz (j := 2) (t := 22) (e := 5) (elems := el) (spare := sr) rfl (by subst hd; rfl) Try.underlying22; rwa [show Try.prog.bytesOf 5 = 1 from by kernel_rfl] at this)
  clear hA0 hval0
  refine (walk_OctetEven W A0 len0 cap0 z0 w0 s0 A1 len1 cap1 z1 w1 s1 A2 len2 cap2 z2 w2 s2).mono fun e W' ⟨he, bel⟩ => ?_
  subst he
  exact ⟨_, rfl, _, _, _, [], _, [], hW', trodAll_mk1 (shut_bool Try.underlying4 _), (trodAll_cons_mk (Below.trod laidOut (by kernel_rfl) (of_decide_eq_true (by kernel_rfl)) k0 bel lt0) (trodAll_cons_mk (Below.trod laidOut (by kernel_rfl) (of_decide_eq_true (by kernel_rfl)) k1 bel lt1) (trodAll_cons_mk (Below.trod laidOut (by kernel_rfl) (of_decide_eq_true (by kernel_rfl)) k2 bel lt2) trodAll_mk0))), rfl, bel.frame _, fun h => by cases h⟩
set_option maxRecDepth 100000 in
theorem lifted (os : Os) (started : os.Started) (H : Type) (enc : TypeId × Value → H) :
    ReturnsInHanded {} Try.checked os 3 .any (Rows.octetEvenSpec.pre6 enc Try.prog Try.f3 Rows.octetEvenRow.domain false) (Rows.octetEvenSpec.post enc Try.prog Try.f3 false true false false) := by
  refine returnsInHanded_of_change_sized (C := Try.checked) own started (by kernel_rfl) Try.func3
    (ChangeSpec.witness6 (enc := enc) (C := Try.checked) false ⟨#[], #[.slice none 0 0, .slice none 0 0, .slice none 0 0], []⟩ 8 (by kernel_rfl) (by kernel_rfl) (by kernel_rfl) (by kernel_rfl)) ?_
  intro W base args ds gs before hval hW _ hsz _
  exact contract H enc W base args ds gs before hval hW hsz
theorem over : Rows.octetEvenRow.holds Try.pinned (OpenSpec.ofChange Rows.octetEvenSpec) :=
  OpenClaim.holds_of_wide 3 Try.f3 rfl rfl rfl rfl rfl rfl rfl ⟨rfl, rfl, rfl, rfl, rfl⟩ rfl rfl rfl rfl rfl (by kernel_rfl) Try.func3 (by kernel_rfl)
    (of_decide_eq_true (by kernel_rfl)) (by unfold Func.isWrapper; first | (rw [if_pos (by decide +kernel)]; kernel_rfl) | (rw [if_neg (by decide +kernel)]; exact ⟨rfl, rfl⟩))
    (fun os started H enc _ => lifted os started H enc)
/-- THE STATEMENT. -/
theorem proved : Rows.OctetEvenSaid := over
end octetEven
end Go.Proofs.Ythdmnmpdmniaaaa
