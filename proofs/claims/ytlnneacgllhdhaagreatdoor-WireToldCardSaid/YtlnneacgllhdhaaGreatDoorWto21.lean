/-
  WireTold: the law's walk; What the row's list gives: package errors' variable; a world that meets it. (after the kit's worked text Toyas. (joined out of WirTo1, WirLaid by shake.py)
-/
import Derived.Test.YtlnneacgllhdhaaGreatDoorCards
import Derived.Test.YtlnneacgllhdhaaGreatDoorTie
import Derived.ProofKit
import Derived.OpenShut
import Derived.Deep.DeepHandedRow
import Derived.LaidLaws
import Derived.LaidHandle
import Derived.Stop.Joined
import Derived.Test.YtlnneacgllhdhaaGreatDoorWto20
import Derived.Test.YtlnneacgllhdhaaGreatDoorWto02
import Derived.Test.YtlnneacgllhdhaaGreatDoorWto04
section
namespace Go.Proofs.YtlnneacgllhdhaaGreatDoor
open Go.RowKit OctMath
set_option linter.unusedVariables false
set_option linter.unusedSimpArgs false
def TurnRel (w : World) (g n cap at_ mk : Nat) (xs : List Nat) (m : Nat) (wr : World) : Prop :=
  wr.ownsRow w.heap.size 5 1 (.slice (some ⟨g, 0, none⟩) n cap) n ((turnL xs at_ mk m).map bv) ∧ Below w.heap.size w wr
theorem pow8 (r : Nat) (h : r < 8) : 2 ^ r < 256 := (Nat.pow_lt_pow_right (a := 2) (n := 8) (by omega) h)
theorem shift8 (r : Nat) (h : r < 8) : (2 : Int) ^ r % 256 = ((2 ^ r : Nat) : Int) := by
  have := pow8 r h
  have e : (2 : Int) ^ r = ((2 ^ r : Nat) : Int) := by rw [Int.natCast_pow]; rfl
  rw [e]
  obtain ⟨z, ez⟩ : ∃ z, 2 ^ r = z := ⟨_, rfl⟩
  rw [ez] at this ⊢
  omega
theorem bit_of (mk m : Nat) (h : mk < 4294967296) : bits .and .u32 ((mk : Int) / 2 ^ m) 1 = if mk.testBit m then 1 else 0 := by
  have h1 : mk / 2 ^ m < 4294967296 := Nat.lt_of_le_of_lt (Nat.div_le_self _ _) h
  have h2 := and32_1 (mk / 2 ^ m) h1
  rw [Int.natCast_ediv, Int.natCast_pow] at h2
  refine h2.trans ?_
  have h3 : mk.testBit m = decide (mk / 2 ^ m % 2 = 1) := by rw [Nat.testBit_eq_decide_div_mod_eq]
  rw [h3]
  have : mk / 2 ^ m % 2 = 0 ∨ mk / 2 ^ m % 2 = 1 := by omega
  rcases this with h4 | h4 <;> rw [h4] <;> simp
theorem turn_none (xs : List Nat) (at_ mk : Nat) : ∀ m, turned mk m = false → turnL xs at_ mk m = xs
  | 0, _ => rfl
  | m + 1, h => by
    unfold turned at h
    by_cases hb : mk.testBit m = true
    · rw [if_pos hb] at h; cases h
    · rw [if_neg hb] at h
      conv => lhs; unfold turnL
      rw [if_neg hb]
      exact turn_none xs at_ mk m h
set_option maxRecDepth 100000 in
set_option maxHeartbeats 4000000 in
theorem told_some (A : Option Addr) (c1 l q mk : Nat) (xs : List Nat) (w : World) (hr : Hid (RdB w A l c1 xs)) (hg : Hid (GE w)) (hl : l ≤ 4194304) (hq : q < 9223372036854775808) (hmk : mk < 4294967296) :
    Calls Tryz.prog 4 #[.slice A l c1, .int .i64 q, .int .u32 mk] w fun e w' => e = .returned (.bool true) ∧ Below w.heap.size w w' := by
  obtain ⟨n, en⟩ : ∃ n, l + 12 = n := ⟨_, rfl⟩
  have hx := hr.out.2.1
  have h1 := hr.out.len
  have b1 : decide ((q : Int) < 0) = false := by rw [decide_eq_false_iff_not]; omega
  have g1 : decide ((l : Int) > 4194304) = false := decide_eq_false (by omega)
  have g2 : decide (4194304 < l) = false := decide_eq_false (by omega)
  have en1 : (l : Int) + 12 = (n : Int) := by omega
  have hat : (q : Int).tmod (8 * (n : Int)) = ((q % (8 * n) : Nat) : Int) := by
    rw [Int.tmod_eq_emod_of_nonneg (by omega)]; rfl
  have hlt0 : q % (8 * n) < 8 * n := Nat.mod_lt _ (by omega)
  obtain ⟨at_, ea⟩ : ∃ x, q % (8 * n) = x := ⟨_, rfl⟩
  rw [ea] at hat hlt0
  clear ea
  have HF := Lib.hid (Frame_any A l c1 xs w hr)
  have HN := Lib.hid (And.intro en (And.intro h1 hl))
  have hfl : (fr xs).length = n := by rw [fr_len]; omega
  have hfb : Byt (fr xs) := fr_byt hx (by omega)
  clear en h1
  go_enter Tryz.func4, Tryz.ntmps4
  go_wp2_with fail
  refine HF.out.mono ?_
  rintro e wa ⟨ha, hv⟩
  rw [if_neg (by omega)] at hv
  obtain ⟨v, rfl, ho⟩ := hv
  rw [HN.out.1] at ho
  obtain ⟨A2, c2, rfl, hc2, hm2⟩ := own_slice ho
  obtain ⟨g, rfl⟩ : ∃ g, A2 = some ⟨g, 0, none⟩ := by
    rcases ho.2 with ⟨h', _⟩ | ⟨g, cap, cur, h', _⟩
    · simp at h'; have := HN.out; omega
    · simp at h'; exact ⟨g, h'.1⟩
  have HO := Lib.hid ho
  have HC2 := Lib.hid (And.intro hc2 hm2)
  have hn9 : n ≤ 4194316 := by have := HN.out; omega
  clear ho HF hc2 hm2
  have z1 : ((n : Int) != (n : Int)) = false := by simp
  go_wp2_with fail
  go_loopw [10, 11] (fun vt vm wr => ∃ m : Nat, m ≤ 32 ∧ at_ + m ≤ 8 * n ∧ vm = .int .i64 m ∧ vt = .bool (turned mk m) ∧ TurnRel w g n c2 at_ mk (fr xs) m wr) (fun _ vm _ => 32 - (intOf vm).toNat)
  case atStart => exact ⟨0, by omega, by omega, rfl, rfl, HO.out, ha⟩
  case round =>
    obtain ⟨m, hm32, hmn, rfl, rfl, hO, hB⟩ := hrel
    have HO2 := Lib.hid hO
    have HB2 := Lib.hid hB
    clear hO
    obtain ⟨tb, et⟩ : ∃ tb, turned mk m = tb := ⟨_, rfl⟩
    have ET := Lib.hid et
    rw [et]
    clear et
    obtain ⟨p, ep⟩ : ∃ p, at_ + m = p := ⟨_, rfl⟩
    have ep' : (at_ : Int) + (m : Int) = (p : Int) := by omega
    have EP := Lib.hid ep
    by_cases hlt : m < 32 ∧ p < 8 * n
    · obtain ⟨hlt1, hlt2⟩ := hlt
      have hb := bit_of mk m hmk
      rcases hbt : mk.testBit m with _ | _
      · have HBT := Lib.hid hbt
        rw [hbt] at hb
        simp only [Bool.false_eq_true, if_false] at hb
        clear hbt ep
        go_wp2_with fail
        have e1 := EP.out
        have e2 : turned mk (m + 1) = tb := by unfold turned; rw [if_neg (by rw [HBT.out]; decide)]; exact ET.out
        have e3 : turnL (fr xs) at_ mk (m + 1) = turnL (fr xs) at_ mk m := by conv => lhs; unfold turnL; rw [if_neg (by rw [HBT.out]; decide)]
        exact ⟨⟨m + 1, by omega, by omega, by go_num, by rw [e2], by rw [e3]; exact HO2.out, hB⟩, by simp [intOf]; omega⟩
      · have HBT := Lib.hid hbt
        rw [hbt] at hb
        simp only [if_true] at hb
        have e1 := EP.out
        have e2 : turned mk (m + 1) = true := by unfold turned; rw [if_pos hbt]
        have e3 : turnL (fr xs) at_ mk (m + 1) = OctMath.flip (turnL (fr xs) at_ mk m) p := by conv => lhs; unfold turnL; rw [if_pos hbt, e1]
        have hl : (turnL (fr xs) at_ mk m).length = n := by rw [turnL_len, hfl]
        have hb2 := turnL_byt hfb at_ mk m
        have E2 := Lib.hid e2
        have E3 := Lib.hid e3
        have E1 := Lib.hid e1
        clear hbt ep e1 e2 e3
        obtain ⟨X, eX⟩ : ∃ X, turnL (fr xs) at_ mk m = X := ⟨_, rfl⟩
        rw [eX] at hl hb2 HO2 E3
        clear eX
        have hi : p / 8 < n := by omega
        have hr8 : p % 8 < 8 := by omega
        obtain ⟨i, ei⟩ : ∃ i, p / 8 = i := ⟨_, rfl⟩
        obtain ⟨r, er⟩ : ∃ r, p % 8 = r := ⟨_, rfl⟩
        have ei' : (p : Int) / 8 = (i : Int) := by omega
        have er' : (p : Int) % 8 = (r : Int) := by omega
        have E4 : Hid (OctMath.flip X p = X.set i (X.getD i 0 ^^^ 2 ^ r)) := Lib.hid (by unfold OctMath.flip; rw [ei, er])
        rw [ei] at hi
        rw [er] at hr8
        have EI := Lib.hid ei
        have ER := Lib.hid er
        clear ei er
        have f1 := HO2.out.cellAt i (by omega)
        rw [List.getElem?_map, List.getElem?_eq_getElem (show i < X.length by omega)] at f1
        have hlx := getD_lt hb2 i
        rw [show X[i] = X.getD i 0 from by rw [List.getD_eq_getElem?_getD, List.getElem?_eq_getElem (show i < X.length by omega)]; rfl] at f1
        have f2 := HO2.out.frozenAt i
        obtain ⟨x, ex⟩ : ∃ x, X.getD i 0 = x := ⟨_, rfl⟩
        rw [ex] at f1 hlx E4
        clear ex
        have hs8 := shift8 r hr8
        have hp8 := pow8 r hr8
        have hxr := u8_xor_nat x (2 ^ r) hlx hp8
        obtain ⟨y, ey⟩ : ∃ y, 2 ^ r = y := ⟨_, rfl⟩
        rw [ey] at hs8 hxr E4
        clear ey hp8
        have f1' : wr.cell? ⟨g, i, none⟩ = some (.int .u8 x) := f1
        clear f1
        go_wp2_with fail
        have hst := HO2.out.stored i (.int .u8 ((x ^^^ y : Nat) : Int))
        refine ⟨⟨m + 1, by omega, by have := E1.out; omega, by go_num, by rw [E2.out], ?_, ?_⟩, by simp [intOf]; omega⟩
        · rw [E3.out, E4.out, List.map_set]; exact hst.1
        · exact bel_grown_own hB hB.size HO2.out hst.2
    · obtain ⟨X, eX⟩ : ∃ X, turnL (fr xs) at_ mk m = X := ⟨_, rfl⟩
      have hXl : X.length = n := by rw [← eX, turnL_len, hfl]
      have hXb : Byt X := by rw [← eX]; exact turnL_byt hfb at_ mk m
      have hX0 : tb = false → frAt X 0 = (0, xs, (l : Int) + 12) := fun h => by
        have e := turn_none (fr xs) at_ mk m (by rw [ET.out, h])
        rw [eX] at e
        rw [e]
        have hh := nxt_fr (b := xs) hx (by have := HN.out; omega) []
        rw [List.append_nil] at hh
        have h2 := frAt_ok (xs := fr xs) (p := 0) (by omega) (by rw [List.drop_zero, hh])
        rw [List.drop_zero, hh] at h2
        rw [show ((0 : Nat) : Int) = 0 from rfl] at h2
        rw [h2]
        have := HN.out.2.1
        simp only [Int.zero_add]
        rw [this]
      have hX1 : tb = true → (frAt X 0).1 ≠ 0 ∧ (frAt X 0).2 = ([], 0) := fun h => by
        have hh := nxt_turned (b := xs) hx (by have := HN.out; omega) (at_ := at_) (mask := mk) (m := m) (by rw [hfl]; exact hmn) hm32 (by rw [ET.out, h])
        rw [eX] at hh
        have h2 := frAt_bad (xs := X) (p := 0) (by omega) (by rw [List.drop_zero]; exact hh)
        rw [List.drop_zero] at h2
        rw [show ((0 : Nat) : Int) = 0 from rfl] at h2
        rw [h2]
        exact ⟨hh, rfl⟩
      rw [eX] at HO2
      clear eX ep
      have RX : Hid (RdB wr (some ⟨g, 0, none⟩) n c2 X) := Lib.hid ⟨Reads.of_own HO2.out, hXb, HC2.out.1, HC2.out.2⟩
      obtain ⟨⟨er, ys, pl⟩, eF⟩ : ∃ F, frAt X 0 = F := ⟨_, rfl⟩
      rw [eF] at hX0 hX1
      have HFX := Lib.hid eF
      have HX := Lib.hid (And.intro hX0 hX1)
      have HNX := Lib.hid (Next_any (some ⟨g, 0, none⟩) n c2 X 0 wr RX (Lib.hid (hg.out.later hB)) (by omega))
      have RB := Lib.hid (hr.out.later hB)
      have HN1 := Lib.hid hlt
      have hc : (decide ((m : Int) < 32) && decide ((p : Int) < 8 * (n : Int))) = false := by
        have := HN1.out
        rw [Bool.and_eq_false_iff, decide_eq_false_iff_not, decide_eq_false_iff_not]; omega
      clear hX0 hX1 hlt hXb hXl HO2
      clear eF
      by_cases hm2 : m < 32
      · have hp2 : ¬ p < 8 * n := fun h => HN1.out ⟨hm2, h⟩
        go_wp2_with fail
        refine HNX.out.mono ?_
        rintro e wb ⟨hb, A3, n3, c3, rfl, r3⟩
        rw [HFX.out] at r3
        simp only [HFX.out]
        dsimp only at r3
        have K := Lib.hid (HB2.out.trans (hb.mono HB2.out.size))
        have RB3 := Lib.hid (RB.out.later hb)
        have n3l := r3.len
        have R3 := Lib.hid r3
        clear hb r3 HNX
        cases tb with
        | false =>
          have h := HX.out.1 rfl
          simp only [Prod.mk.injEq] at h
          obtain ⟨rfl, rfl, -⟩ := h
          have HS := Lib.hid (same_any A3 A c3 c1 n3 l ys ys wb hx hx R3.out.1 RB3.out.1)
          have dd : decide (ys = ys) = true := decide_eq_true rfl
          clear n3l HX hx
          go_wp2_with (first
            | (go_at_call 8; refine HS.out.mono ?_; rintro e wc ⟨rfl, rfl⟩)
            | (go_at_call 13; refine (heads_any _ (Lib.hid (hg.out.later K.out))).mono ?_; rintro e we ⟨rfl, he⟩; have HE := Lib.hid he; clear he))
          go_ret
          exact ⟨rfl, K.out.trans (HE.out.mono K.out.size)⟩
        | true =>
          have h := HX.out.2 rfl
          simp only [Prod.mk.injEq] at h
          obtain ⟨her, rfl, -⟩ := h
          simp only [List.length_nil] at n3l
          subst n3l
          have q1 : ((er : Int) == 0) = false := by rw [beq_eq_false_iff_ne]; omega
          have q2 : ((er : Int) != 0) = true := by rw [bne, q1]; rfl
          have q3 : decide ((er : Int) = 0) = false := decide_eq_false (by omega)
          have q4 : decide (er = 0) = false := decide_eq_false her
          have q5 : (er == 0) = false := by rw [beq_eq_false_iff_ne]; exact her
          clear HX her
          go_wp2_with (first
            | (go_at_call 13; refine (heads_any _ (Lib.hid (hg.out.later K.out))).mono ?_; rintro e we ⟨rfl, he⟩; have HE := Lib.hid he; clear he))
          go_ret
          exact ⟨rfl, K.out.trans (HE.out.mono K.out.size)⟩
      · obtain rfl : m = 32 := by omega
        go_wp2_with fail
        refine HNX.out.mono ?_
        rintro e wb ⟨hb, A3, n3, c3, rfl, r3⟩
        rw [HFX.out] at r3
        simp only [HFX.out]
        dsimp only at r3
        have K := Lib.hid (HB2.out.trans (hb.mono HB2.out.size))
        have RB3 := Lib.hid (RB.out.later hb)
        have n3l := r3.len
        have R3 := Lib.hid r3
        clear hb r3 HNX
        cases tb with
        | false =>
          have h := HX.out.1 rfl
          simp only [Prod.mk.injEq] at h
          obtain ⟨rfl, rfl, -⟩ := h
          have HS := Lib.hid (same_any A3 A c3 c1 n3 l ys ys wb hx hx R3.out.1 RB3.out.1)
          have dd : decide (ys = ys) = true := decide_eq_true rfl
          clear n3l HX hx
          go_wp2_with (first
            | (go_at_call 8; refine HS.out.mono ?_; rintro e wc ⟨rfl, rfl⟩)
            | (go_at_call 13; refine (heads_any _ (Lib.hid (hg.out.later K.out))).mono ?_; rintro e we ⟨rfl, he⟩; have HE := Lib.hid he; clear he))
          go_ret
          exact ⟨rfl, K.out.trans (HE.out.mono K.out.size)⟩
        | true =>
          have h := HX.out.2 rfl
          simp only [Prod.mk.injEq] at h
          obtain ⟨her, rfl, -⟩ := h
          simp only [List.length_nil] at n3l
          subst n3l
          have q1 : ((er : Int) == 0) = false := by rw [beq_eq_false_iff_ne]; omega
          have q2 : ((er : Int) != 0) = true := by rw [bne, q1]; rfl
          have q3 : decide ((er : Int) = 0) = false := decide_eq_false (by omega)
          have q4 : decide (er = 0) = false := decide_eq_false her
          have q5 : (er == 0) = false := by rw [beq_eq_false_iff_ne]; exact her
          clear HX her
          go_wp2_with (first
            | (go_at_call 13; refine (heads_any _ (Lib.hid (hg.out.later K.out))).mono ?_; rintro e we ⟨rfl, he⟩; have HE := Lib.hid he; clear he))
          go_ret
          exact ⟨rfl, K.out.trans (HE.out.mono K.out.size)⟩
set_option maxRecDepth 100000 in
set_option maxHeartbeats 4000000 in
theorem told_else (A : Option Addr) (c1 l : Nat) (q mk : Int) (xs : List Nat) (w : World) (hr : Hid (RdB w A l c1 xs)) (hg : Hid (GE w)) (h : 4194304 < l ∨ q < 0) :
    Calls Tryz.prog 4 #[.slice A l c1, .int .i64 q, .int .u32 mk] w fun e w' => e = .returned (.bool true) ∧ Below w.heap.size w w' := by
  have HF := Lib.hid (Frame_any A l c1 xs w hr)
  by_cases hl : 4194304 < l
  · have g1 : decide ((l : Int) > 4194304) = true := decide_eq_true (by omega)
    have g2 : decide (4194304 < l) = true := decide_eq_true hl
    have HL := Lib.hid hl
    clear h hl
    go_enter Tryz.func4, Tryz.ntmps4
    go_wp2_with fail
    refine HF.out.mono ?_
    rintro e wa ⟨ha, hv⟩
    rw [if_pos HL.out] at hv
    subst hv
    have K := Lib.hid ha
    clear ha
    go_wp2_with (first
      | (go_at_call 13; refine (heads_any _ (Lib.hid (hg.out.later K.out))).mono ?_; rintro e we ⟨rfl, he⟩; have HE := Lib.hid he; clear he))
    go_ret
    exact ⟨rfl, K.out.trans (HE.out.mono K.out.size)⟩
  · have hq : q < 0 := by omega
    obtain ⟨n, en⟩ : ∃ n, l + 12 = n := ⟨_, rfl⟩
    have en1 : (l : Int) + 12 = (n : Int) := by omega
    have g1 : decide ((l : Int) > 4194304) = false := decide_eq_false (by omega)
    have g2 : decide (4194304 < l) = false := decide_eq_false (by omega)
    have b1 : decide (q < 0) = true := decide_eq_true hq
    have HL := Lib.hid hl
    have EN := Lib.hid en
    have z1 : ((n : Int) != (n : Int)) = false := by simp
    have hl9 : l ≤ 4194304 := by omega
    have hn9 : n ≤ 4194316 := by omega
    clear h hl en hq
    go_enter Tryz.func4, Tryz.ntmps4
    go_wp2_with fail
    refine HF.out.mono ?_
    rintro e wa ⟨ha, hv⟩
    rw [if_neg HL.out] at hv
    obtain ⟨v, rfl, ho⟩ := hv
    rw [EN.out] at ho
    obtain ⟨A2, c2, rfl, hc2, hm2⟩ := own_slice ho
    have K := Lib.hid ha
    clear ha ho hc2 hm2 HF
    go_wp2_with (first
      | (go_at_call 13; refine (heads_any _ (Lib.hid (hg.out.later K.out))).mono ?_; rintro e we ⟨rfl, he⟩; have HE := Lib.hid he; clear he))
    go_ret
    exact ⟨rfl, K.out.trans (HE.out.mono K.out.size)⟩
end Go.Proofs.YtlnneacgllhdhaaGreatDoor
end
section
namespace Go.Proofs.YtlnneacgllhdhaaGreatDoor
open Go.RowKit Go.ChangeShapes Go.WideShapes
set_option linter.unusedVariables false
theorem et0 : Tryz.prog.globalNamed "errors.errorType" = some 0 := by kernel_rfl
theorem rt0 : (Tryz.prog.cutTypes.find? (·.1 == "internal/reflectlite.rtype")).map (·.2) = some 216 := by kernel_rfl
theorem oneRow0 : ((List.range 266).filter fun t => Tryz.prog.rowNamed t [101, 114, 114, 111, 114]) = [101] := by kernel_rfl
theorem tsize0 : Tryz.prog.types.size = 266 := by kernel_rfl
abbrev laid0 : List (String × DataW Unit) := [("errors.errorType", Rows.laid_errors_errorType)]
theorem ge_of_laid {W : World} (h : laidMetH Tryz.prog laid0 W) : GE W := by
  have h' : laidMet Tryz.prog [] W ∧ handlesMet Tryz.prog laid0 W := h
  obtain ⟨name, u, ty, e1, e2, e3, e4, e5⟩ := h'.2 _ (List.mem_singleton.2 rfl)
  have en : name = [101, 114, 114, 111, 114] := (Option.some.inj e1).symm
  subst en
  obtain rfl := Option.some.inj (rt0.symm.trans e2)
  have hm : ty ∈ (List.range 266).filter fun t => Tryz.prog.rowNamed t [101, 114, 114, 111, 114] := List.mem_filter.2 ⟨List.mem_range.2 (by rw [← tsize0]; exact e3), e4⟩
  rw [oneRow0] at hm
  obtain rfl := List.mem_singleton.1 hm
  have hh : typeHandle Tryz.prog 101 = .pointer (some ⟨1, 101, none⟩) := by kernel_rfl
  rw [hh] at e5
  unfold GE
  simpa using World.var?_cell et0 e5 0
/-- A world that meets the condition: the settled one, the variable's cell laid. -/
noncomputable def laidWorld (os : Os) : World :=
  let w0 := World.holding Tryz.prog os ⟨#[], #[], []⟩
  { w0 with heap := w0.heap.modify 0 fun
      | .cells _ t frozen => .cells #[.iface 216 (.agg #[.pointer (some ⟨1, 101, none⟩)])] t frozen
      | o => o }
theorem laid_met (os : Os) (args : Array Value) : laidMetH Tryz.prog laid0 ((laidWorld os).forCall (fun _ _ => 0) ⟨#[], args, []⟩).memory :=
  laidMetH_of_parts (laidMet_nil _ _) (by kernel_rfl)
end Go.Proofs.YtlnneacgllhdhaaGreatDoor
end
