/-
  OctetTurned holds for every row of bytes, place and mask: turned bits among 32 neighbouring ones turn the sum.
-/
import Derived.Test.YthdmnmpdmniaaaaOctW7
import Derived.Test.YthdmnmpdmniaaaaOctTurnM
namespace Go.Proofs.Ythdmnmpdmniaaaa
open Go.RowKit OctMath
set_option linter.unusedVariables false
def TurnRel (w : World) (g n cap at_ mk : Nat) (xs : List Nat) (m : Nat) (wr : World) : Prop :=
  wr.ownsRow w.heap.size 5 1 (.slice (some ⟨g, 0, none⟩) n cap) n ((turnL xs at_ mk m).map bv) ∧ Below w.heap.size w wr
theorem pow8 (r : Nat) (h : r < 8) : 2 ^ r < 256 := (Nat.pow_lt_pow_right (a := 2) (n := 8) (by omega) h)
theorem shift8 (r : Nat) (h : r < 8) : (2 : Int) ^ r % 256 = ((2 ^ r : Nat) : Int) := by
  have := pow8 r h
  have e : (2 : Int) ^ r = ((2 ^ r : Nat) : Int) := by rw [Int.natCast_pow]; rfl
  rw [e]
  obtain ⟨z, ez⟩ : ∃ z, 2 ^ r = z := ⟨_, rfl⟩
  rw [ez] at this ⊢
  omega
theorem bit_of (mk m : Nat) (h : mk < 4294967296) : bits .and .u32 ((mk : Int) / 2 ^ m) 1 = if mk.testBit m then 1 else 0 := by
  have h1 : mk / 2 ^ m < 4294967296 := Nat.lt_of_le_of_lt (Nat.div_le_self _ _) h
  have h2 := and32_1 (mk / 2 ^ m) h1
  rw [Int.natCast_ediv, Int.natCast_pow] at h2
  refine h2.trans ?_
  have h3 : mk.testBit m = decide (mk / 2 ^ m % 2 = 1) := by rw [Nat.testBit_eq_decide_div_mod_eq]
  rw [h3]
  have : mk / 2 ^ m % 2 = 0 ∨ mk / 2 ^ m % 2 = 1 := by omega
  rcases this with h4 | h4 <;> rw [h4] <;> simp
set_option maxRecDepth 100000 in
set_option maxHeartbeats 2000000 in
theorem turned_some (A : Option Addr) (c1 n q mk : Nat) (xs : List Nat) (w : World) (hx : Byt xs) (h1 : xs.length = n)
    (hr1 : Reads w w.heap.size 1 A n (xs.map bv)) (hm : n ≤ 140737488351232) (hn : 0 < n) (hq : q < 9223372036854775808) (hmk : mk < 4294967296) :
    Calls Try.prog 4 #[.slice A n c1, .int .i64 q, .int .u32 mk] w fun e w' => e = .returned (.bool true) ∧ Below w.heap.size w w' := by
  have R1 := Lib.hid hr1
  clear hr1
  have b0 : ((n : Int) == 0) = false := by rw [beq_eq_false_iff_ne]; omega
  have b1 : decide ((q : Int) < 0) = false := by rw [decide_eq_false_iff_not]; omega
  have hat : (q : Int).tmod (8 * (n : Int)) = ((q % (8 * n) : Nat) : Int) := by
    rw [Int.tmod_eq_emod_of_nonneg (by omega)]; rfl
  have hlt0 : q % (8 * n) < 8 * n := Nat.mod_lt _ (by omega)
  obtain ⟨at_, ea⟩ : ∃ x, q % (8 * n) = x := ⟨_, rfl⟩
  rw [ea] at hat hlt0
  clear ea
  go_enter Try.func4, Try.ntmps4
  go_wp2_with fail
  refine (copy_any A c1 n (xs.map bv) _ R1.out (bv_one xs) (by omega)).mono ?_
  intro e wa hh
  obtain ⟨A2, c2, rfl, hr2, hc2, hm2, ha, ho⟩ := hh.open
  rw [List.length_map, h1] at hr2 hc2 ho
  rw [List.length_map, h1]
  obtain ⟨g, rfl⟩ : ∃ g, A2 = some ⟨g, 0, none⟩ := by
    rcases ho.2 with ⟨h', _⟩ | ⟨g, cap, cur, h', _⟩
    · simp at h'; omega
    · simp at h'; exact ⟨g, h'.1⟩
  have HO := Lib.hid ho
  clear ho hh hr2
  go_wp2_with fail
  go_loopw [9, 10] (fun vt vm wr => ∃ m : Nat, m ≤ 32 ∧ at_ + m ≤ 8 * n ∧ vm = .int .i64 m ∧ vt = .bool (turned mk m) ∧ TurnRel w g n c2 at_ mk xs m wr) (fun _ vm _ => 32 - (intOf vm).toNat)
  case atStart => exact ⟨0, by omega, by omega, rfl, rfl, HO.out, ha⟩
  case round =>
    obtain ⟨m, hm32, hmn, rfl, rfl, hO, hB⟩ := hrel
    have HO2 := Lib.hid hO
    clear hO
    obtain ⟨tb, et⟩ : ∃ tb, turned mk m = tb := ⟨_, rfl⟩
    have ET := Lib.hid et
    rw [et]
    clear et
    obtain ⟨p, ep⟩ : ∃ p, at_ + m = p := ⟨_, rfl⟩
    have ep' : (at_ : Int) + (m : Int) = (p : Int) := by omega
    have EP := Lib.hid ep
    by_cases hlt : m < 32 ∧ p < 8 * n
    · obtain ⟨hlt1, hlt2⟩ := hlt
      have hb := bit_of mk m hmk
      rcases hbt : mk.testBit m with _ | _
      · have HBT := Lib.hid hbt
        rw [hbt] at hb
        simp only [Bool.false_eq_true, if_false] at hb
        clear hbt ep
        go_wp2_with fail
        have e1 := EP.out
        have e2 : turned mk (m + 1) = tb := by unfold turned; rw [if_neg (by rw [HBT.out]; decide)]; exact ET.out
        have e3 : turnL xs at_ mk (m + 1) = turnL xs at_ mk m := by conv => lhs; unfold turnL; rw [if_neg (by rw [HBT.out]; decide)]
        exact ⟨⟨m + 1, by omega, by omega, by go_num, by rw [e2], by rw [e3]; exact HO2.out, hB⟩, by simp [intOf]; omega⟩
      · have HBT := Lib.hid hbt
        rw [hbt] at hb
        simp only [if_true] at hb
        have e1 := EP.out
        have e2 : turned mk (m + 1) = true := by unfold turned; rw [if_pos hbt]
        have e3 : turnL xs at_ mk (m + 1) = OctMath.flip (turnL xs at_ mk m) p := by conv => lhs; unfold turnL; rw [if_pos hbt, e1]
        have hl : (turnL xs at_ mk m).length = n := by rw [turnL_len, h1]
        have hb2 := turnL_byt hx at_ mk m
        have E2 := Lib.hid e2
        have E3 := Lib.hid e3
        have E1 := Lib.hid e1
        clear hbt ep e1 e2 e3
        obtain ⟨X, eX⟩ : ∃ X, turnL xs at_ mk m = X := ⟨_, rfl⟩
        rw [eX] at hl hb2 HO2 E3
        clear eX
        have hi : p / 8 < n := by omega
        have hr8 : p % 8 < 8 := by omega
        obtain ⟨i, ei⟩ : ∃ i, p / 8 = i := ⟨_, rfl⟩
        obtain ⟨r, er⟩ : ∃ r, p % 8 = r := ⟨_, rfl⟩
        have ei' : (p : Int) / 8 = (i : Int) := by omega
        have er' : (p : Int) % 8 = (r : Int) := by omega
        have E4 : Hid (OctMath.flip X p = X.set i (X.getD i 0 ^^^ 2 ^ r)) := Lib.hid (by unfold OctMath.flip; rw [ei, er])
        rw [ei] at hi
        rw [er] at hr8
        have EI := Lib.hid ei
        have ER := Lib.hid er
        clear ei er
        have f1 := HO2.out.cellAt i (by omega)
        rw [List.getElem?_map, List.getElem?_eq_getElem (show i < X.length by omega)] at f1
        have hlx := getD_lt hb2 i
        rw [show X[i] = X.getD i 0 from by rw [List.getD_eq_getElem?_getD, List.getElem?_eq_getElem (show i < X.length by omega)]; rfl] at f1
        have f2 := HO2.out.frozenAt i
        obtain ⟨x, ex⟩ : ∃ x, X.getD i 0 = x := ⟨_, rfl⟩
        rw [ex] at f1 hlx E4
        clear ex
        have hs8 := shift8 r hr8
        have hp8 := pow8 r hr8
        have hxr := u8_xor_nat x (2 ^ r) hlx hp8
        obtain ⟨y, ey⟩ : ∃ y, 2 ^ r = y := ⟨_, rfl⟩
        rw [ey] at hs8 hxr E4
        clear ey hp8
        have f1' : wr.cell? ⟨g, i, none⟩ = some (.int .u8 x) := f1
        clear f1
        go_wp2_with fail
        have hst := HO2.out.stored i (.int .u8 ((x ^^^ y : Nat) : Int))
        refine ⟨⟨m + 1, by omega, by have := E1.out; omega, by go_num, by rw [E2.out], ?_, ?_⟩, by simp [intOf]; omega⟩
        · rw [E3.out, E4.out, List.map_set]; exact hst.1
        · exact bel_grown_own hB hB.size HO2.out hst.2
    · obtain ⟨X, eX⟩ : ∃ X, turnL xs at_ mk m = X := ⟨_, rfl⟩
      have hl : X.length = n := by rw [← eX, turnL_len, h1]
      have hXb : Byt X := by rw [← eX]; exact turnL_byt hx at_ mk m
      have hcr := crc_turned xs at_ mk m (by omega) hm32
      rw [eX, ET.out] at hcr
      have y1 : crc xs < 4294967296 := xor_lt32 (by decide) (crcS_lt xs (c := 4294967295) (by decide) hx)
      have y2 : crc X < 4294967296 := xor_lt32 (by decide) (crcS_lt X (c := 4294967295) (by decide) hXb)
      rw [eX] at HO2
      clear eX ep
      have htest : (((crc xs : Nat) : Int) != ((crc X : Nat) : Int)) = tb := by
        rcases tb with _ | _
        · have : crc xs = crc X := by
            apply Classical.byContradiction
            intro hne
            have := hcr.1 hne
            cases this
          rw [this]; simp
        · have : crc xs ≠ crc X := hcr.2 rfl
          rw [bne_iff_ne]; omega
      have hr4 := Reads.of_own HO2.out
      have R4 := Lib.hid hr4
      clear hr4 HO2 hcr
      have htt : (tb == tb) = true := by simp
      have HN := Lib.hid hlt
      clear hlt
      have hc : (decide ((m : Int) < 32) && decide ((p : Int) < 8 * (n : Int))) = false := by
        have := HN.out
        rw [Bool.and_eq_false_iff, decide_eq_false_iff_not, decide_eq_false_iff_not]; omega
      by_cases hm2 : m < 32
      · have hp2 : ¬ p < 8 * n := fun h => HN.out ⟨hm2, h⟩
        go_wp2_with fail
        refine (crc_any A c1 n xs _ hx h1 ((R1.out.below hB).more hB.size) (by unfold maxLen; omega)).mono ?_
        rintro e wb ⟨rfl, hb⟩
        go_wp2_with fail
        refine (crc_any (some ⟨g, 0, none⟩) c2 n X _ hXb hl (R4.out.later hb) (by unfold maxLen; omega)).mono ?_
        rintro e wc ⟨rfl, hc⟩
        go_wp2_with (go_at_call 8; refine (heads_any _).mono ?_; rintro e we ⟨rfl, he⟩)
        go_ret
        exact ⟨rfl, bel_trans hB (bel_trans hb (bel_trans hc he))⟩
      · obtain rfl : m = 32 := by omega
        go_wp2_with fail
        refine (crc_any A c1 n xs _ hx h1 ((R1.out.below hB).more hB.size) (by unfold maxLen; omega)).mono ?_
        rintro e wb ⟨rfl, hb⟩
        go_wp2_with fail
        refine (crc_any (some ⟨g, 0, none⟩) c2 n X _ hXb hl (R4.out.later hb) (by unfold maxLen; omega)).mono ?_
        rintro e wc ⟨rfl, hc⟩
        go_wp2_with (go_at_call 8; refine (heads_any _).mono ?_; rintro e we ⟨rfl, he⟩)
        go_ret
        exact ⟨rfl, bel_trans hB (bel_trans hb (bel_trans hc he))⟩
set_option maxRecDepth 100000 in
set_option maxHeartbeats 2000000 in
theorem turned_else (A : Option Addr) (c1 n : Nat) (q : Int) (mk : Int) (w : World) (h1 : n ≤ maxLen) (h : n = 0 ∨ q < 0) :
    Calls Try.prog 4 #[.slice A n c1, .int .i64 q, .int .u32 mk] w fun e w' => e = .returned (.bool true) ∧ Below w.heap.size w w' := by
  by_cases hn : n = 0
  · have b1 : ((n : Int) == 0) = true := by rw [beq_iff_eq]; omega
    clear h hn
    go_enter Try.func4, Try.ntmps4
    go_wp2_with (go_at_call 8; refine (heads_any _).mono ?_; rintro e we ⟨rfl, he⟩)
    go_ret
    exact ⟨rfl, he⟩
  · have b1 : ((n : Int) == 0) = false := by rw [beq_eq_false_iff_ne]; omega
    have hq : q < 0 := by omega
    have b2 : decide (q < 0) = true := decide_eq_true hq
    clear h hn
    go_enter Try.func4, Try.ntmps4
    go_wp2_with (go_at_call 8; refine (heads_any _).mono ?_; rintro e we ⟨rfl, he⟩)
    go_ret
    exact ⟨rfl, he⟩
theorem walk_OctetTurned (W : World) (A : Option Addr) (n cap : Nat) (z : List Int) (h : Ints .u8 W A n cap z) (s : n * 1 ≤ 140737488351232) (a : Int) (wa : (Lit.int .i64 a).wf = true) (b : Int) (wb : (Lit.int .u32 b).wf = true) :
    Calls Try.prog 4 #[.slice A n cap, .int .i64 a, .int .u32 b] W fun e w' => e = .returned (.bool true) ∧ Below W.heap.size W w' := by
  obtain ⟨xs, hx, hl, hr, _, _⟩ := h.bytes
  have ha : -9223372036854775808 ≤ a ∧ a ≤ 9223372036854775807 := by simpa [Lit.wf, IntKind.min, IntKind.max, IntKind.signed, IntKind.bits] using wa
  have hb : 0 ≤ b ∧ b ≤ 4294967295 := by simpa [Lit.wf, IntKind.min, IntKind.max, IntKind.signed, IntKind.bits] using wb
  by_cases e : n = 0 ∨ a < 0
  · exact turned_else A cap n a b W (by unfold maxLen; omega) e
  · obtain ⟨q, rfl⟩ := Int.eq_ofNat_of_zero_le (show 0 ≤ a by omega)
    obtain ⟨mk, rfl⟩ := Int.eq_ofNat_of_zero_le (show 0 ≤ b by omega)
    exact turned_some A cap n q mk xs W hx hl hr (by omega) (by omega) (by omega) (by omega)
namespace octetTurned
open Go.ChangeShapes Go.WideShapes Go.ChangeAt Go.RowKit
open Go.ChangeMaps (open_string shut_string)
set_option linter.unusedVariables false
theorem own : ownKnob Try.prog.godebug = none := by kernel_rfl
theorem laidOut : laidOutB Try.prog = true := by kernel_rfl
set_option maxRecDepth 100000 in
theorem contract (H : Type) (enc : TypeId × Value → H) (W : World) (base : Nat) (args : Array Value) (ds gs : List (DataW H)) (before : List MemPlace)
    (hval0 : ∀ (j : Nat) t v, Try.f4.params[j]? = some t → args[j]? = some v → Value.okWide Try.prog W .any base t v)
    (hW : DataW.Whole enc Try.prog Try.f4.params.toList Rows.octetTurnedSpec.vars false W args.toList ds gs before) (hsz : (DataW.weightsEach Try.prog (Try.f4.params.toList ++ Rows.octetTurnedSpec.plain.varTypes Try.prog) (ds ++ gs)).all (· ≤ reachBytes) = true) :
    Calls Try.prog 4 args W fun e W' => ∃ v, e = .returned v ∧ Rows.octetTurnedSpec.post enc Try.prog Try.f4 false true false false W args v W' := by
  have hval : ∀ (j : Nat) t v, Try.f4.params[j]? = some t → args[j]? = some v → Value.okWide Try.prog W .any base t v := hval0
  have hW' := hW
  obtain ⟨p, q, hA0, hV, rfl, hfz, hnd⟩ := hW
  have hA : DataW.TrodAll enc Try.prog W 0 (fun _ => true) true Try.f4.params.toList args.toList ds p := hA0
  rw [Try.params4] at hA hval
  obtain ⟨v0, vs0, d0, ds0, p0, q0, hargs, rfl, rfl, h0, r0⟩ := trodAll_cons hA
  obtain ⟨v1, vs1, d1, ds1, p1, q1, rfl, rfl, rfl, h1, r1⟩ := trodAll_cons r0
  obtain ⟨v2, vs2, d2, ds2, p2, q2, rfl, rfl, rfl, h2, r2⟩ := trodAll_cons r1
  obtain ⟨rfl, rfl, rfl⟩ := trodAll_nil r2
  obtain rfl : args = #[v0, v1, v2] := by cases args; simp_all
  obtain ⟨rfl, rfl⟩ := trodVars_none hV
  have k0 := h0
  have lt0 : ∀ x ∈ p0, x.block < W.heap.size := by obtain ⟨m, hm⟩ := k0; exact DataW.trod_lt m _ _ _ hm
  have k1 := h1
  have lt1 : ∀ x ∈ p1, x.block < W.heap.size := by obtain ⟨m, hm⟩ := k1; exact DataW.trod_lt m _ _ _ hm
  have k2 := h2
  have lt2 : ∀ x ∈ p2, x.block < W.heap.size := by obtain ⟨m, hm⟩ := k2; exact DataW.trod_lt m _ _ _ hm
  obtain ⟨A0, len0, cap0, rfl⟩ := okWide_slice Try.underlying22 (hval 0 22 v0 rfl rfl)
  obtain ⟨z0, w0⟩ := open_in_ints Try.underlying22 Try.underlying5 (by kernel_rfl) h0
  have s0 := ints_reach (b := 1) Try.underlying22 Try.underlying5 (by kernel_rfl) h0 (fun el sr hd => by have := sized_slice hsz (j := 0) (t := 22) (e := 5) (elems := el) (spare := sr) rfl (by subst hd; rfl) Try.underlying22; rwa [show Try.prog.bytesOf 5 = 1 from by kernel_rfl] at this)
  obtain ⟨a1, rfl, rfl, rfl, w1⟩ := open_int Try.underlying3 (hval 1 3 v1 rfl rfl) h1
  obtain ⟨a2, rfl, rfl, rfl, w2⟩ := open_int Try.underlying24 (hval 2 24 v2 rfl rfl) h2
  clear hA0 hval0
  refine (walk_OctetTurned W A0 len0 cap0 z0 w0 s0 a1 w1 a2 w2).mono fun e W' ⟨he, bel⟩ => ?_
  subst he
  exact ⟨_, rfl, _, _, _, [], _, [], hW', trodAll_mk1 (shut_bool Try.underlying4 _), (trodAll_cons_mk (Below.trod laidOut (by kernel_rfl) (of_decide_eq_true (by kernel_rfl)) k0 bel lt0) (trodAll_cons_mk (Below.trod laidOut (by kernel_rfl) (of_decide_eq_true (by kernel_rfl)) k1 bel lt1) (trodAll_cons_mk (Below.trod laidOut (by kernel_rfl) (of_decide_eq_true (by kernel_rfl)) k2 bel lt2) trodAll_mk0))), rfl, bel.frame _, fun h => by cases h⟩
set_option maxRecDepth 100000 in
theorem lifted (os : Os) (started : os.Started) (H : Type) (enc : TypeId × Value → H) :
    ReturnsInHanded {} Try.checked os 4 .any (Rows.octetTurnedSpec.pre6 enc Try.prog Try.f4 Rows.octetTurnedRow.domain false) (Rows.octetTurnedSpec.post enc Try.prog Try.f4 false true false false) := by
  refine returnsInHanded_of_change_sized (C := Try.checked) own started (by kernel_rfl) Try.func4
    (ChangeSpec.witness6 (enc := enc) (C := Try.checked) false ⟨#[], #[.slice none 0 0, .int .i64 0, .int .u32 0], []⟩ 8 (by kernel_rfl) (by kernel_rfl) (by kernel_rfl) (by kernel_rfl)) ?_
  intro W base args ds gs before hval hW _ hsz _
  exact contract H enc W base args ds gs before hval hW hsz
theorem over : Rows.octetTurnedRow.holds Try.pinned (OpenSpec.ofChange Rows.octetTurnedSpec) :=
  OpenClaim.holds_of_wide 4 Try.f4 rfl rfl rfl rfl rfl rfl rfl ⟨rfl, rfl, rfl, rfl, rfl⟩ rfl rfl rfl rfl rfl (by kernel_rfl) Try.func4 (by kernel_rfl)
    (of_decide_eq_true (by kernel_rfl)) (by unfold Func.isWrapper; first | (rw [if_pos (by decide +kernel)]; kernel_rfl) | (rw [if_neg (by decide +kernel)]; exact ⟨rfl, rfl⟩))
    (fun os started H enc _ => lifted os started H enc)
/-- THE STATEMENT. -/
theorem proved : Rows.OctetTurnedSaid := over
end octetTurned
end Go.Proofs.Ythdmnmpdmniaaaa
