/-
  THE REFERENCE'S FRAMES: word, Frame, Next. (printed by gen_wirb3.py); THE REFERENCE'S ALL. (printed by gen_wirall.py); What the row's list gives: package errors' variable; a world that meets it. (after the kit's worked text Toyas. (joined out of WirB3, WirB4, WirLaid by shake.py)
-/
import Derived.Test.YtlnneacgllhdhaaGreatDoorCards
import Derived.Test.YtlnneacgllhdhaaGreatDoorTie
import Derived.ProofKit
import Derived.OpenShut
import Derived.Deep.DeepHandedRow
import Derived.LaidLaws
import Derived.LaidHandle
import Derived.Stop.Joined
import Derived.Test.YtlnneacgllhdhaaGreatDoorWcm06
import Derived.Test.YtlnneacgllhdhaaGreatDoorWcm04
section
namespace Go.Proofs.YtlnneacgllhdhaaGreatDoor
open Go.RowKit OctMath
set_option linter.unusedVariables false
set_option linter.unusedSimpArgs false
set_option maxRecDepth 100000 in
set_option maxHeartbeats 4000000 in
theorem rrword_any (A : Option Addr) (l cap : Nat) (xs : List Nat) (w : World) (hr : Hid (Reads w w.heap.size 1 A l (xs.map bv))) (hb : Byt xs) (h4 : 4 ≤ l) :
    Calls Tryz.prog 41 #[.slice A l cap] w fun ev w' => ev = .returned (.int .u32 (wordN xs : Int)) ∧ w.drew = w' := by
  have hl : xs.length = l := by simpa using hr.out.1
  obtain ⟨ad, hA, hlt, hc⟩ := hr.out.2 (by omega)
  subst hA
  have e : ∀ k, k < l → xs[k]? = some (xs.getD k 0) := fun k hk => by rw [List.getD_eq_getElem?_getD, List.getElem?_eq_getElem (by omega)]; rfl
  have g : ∀ k, k < l → w.cell? (ad.add k) = some (.int .u8 ((xs.getD k 0 : Nat) : Int)) := fun k hk => hc k _ (by rw [List.getElem?_map, e k hk]; rfl)
  have b : ∀ k, xs.getD k 0 < 256 := fun k => by
    rw [List.getD_eq_getElem?_getD]
    cases q : xs[k]? with
    | none => decide
    | some y => exact hb y (List.mem_of_getElem? q)
  have g0 := g 0 (by omega); have g1 := g 1 (by omega); have g2 := g 2 (by omega); have g3 := g 3 (by omega)
  rw [Addr.add_zero'] at g0
  rw [Addr.add_succ'] at g1 g2 g3
  have b0 := b 0; have b1 := b 1; have b2 := b 2; have b3 := b 3
  have HW := Lib.hid (show wordN xs = xs.getD 0 0 + 256 * xs.getD 1 0 + 65536 * xs.getD 2 0 + 16777216 * xs.getD 3 0 from rfl)
  generalize xs.getD 0 0 = a0 at *
  generalize xs.getD 1 0 = a1 at *
  generalize xs.getD 2 0 = a2 at *
  generalize xs.getD 3 0 = a3 at *
  have d0 : decide ((0 : Int) < (l : Int)) = true := decide_eq_true (by omega)
  have d1 : decide ((1 : Int) < (l : Int)) = true := decide_eq_true (by omega)
  have d2 : decide ((2 : Int) < (l : Int)) = true := decide_eq_true (by omega)
  have d3 : decide ((3 : Int) < (l : Int)) = true := decide_eq_true (by omega)
  clear e g b hc
  go_enter Tryz.func41, Tryz.ntmps41
  go_wp2_with fail
  go_region
  go_wp2
  go_ret
  refine ⟨?_, rfl⟩
  have e1 : bits .or .u32 (a0 : Int) ((a1 : Int) * 256) = ((a0 + a1 * 256 : Nat) : Int) := or_step a0 a1 8 256 rfl (by omega) (by omega)
  have e2 : bits .or .u32 ((a0 + a1 * 256 : Nat) : Int) ((a2 : Int) * 65536) = ((a0 + a1 * 256 + a2 * 65536 : Nat) : Int) := or_step _ a2 16 65536 rfl (by omega) (by omega)
  have e3 : bits .or .u32 ((a0 + a1 * 256 + a2 * 65536 : Nat) : Int) ((a3 : Int) * 16777216) = ((a0 + a1 * 256 + a2 * 65536 + a3 * 16777216 : Nat) : Int) := or_step _ a3 24 16777216 rfl (by omega) (by omega)
  show Ending.returned (.int .u32 (bits .or .u32 (bits .or .u32 (bits .or .u32 (a0 : Int) ((a1 : Int) * 256)) ((a2 : Int) * 65536)) ((a3 : Int) * 16777216))) = _
  rw [e1, e2, e3, HW.out]
  congr 2
  omega
theorem wordN_four {s : List Nat} (h : 4 ≤ s.length) : wordN (s.take 4) = wordN s := by
  match s, h with
  | a :: b :: c :: d :: r, _ => rfl
theorem nxt_c40 {s : List Nat} (h : s.length < 8) : nxt s = (40, []) := by
  have h1 := opn_short (bs := s) (n := 4) (by omega)
  rw [nxt_bad (by rw [h1]; decide), h1]
theorem nxt_c61 {s : List Nat} (h : 8 ≤ s.length) (h2 : wordN (s.drop 4) ≠ crc (s.take 4)) : nxt s = (61, []) := by
  have h1 : opn s 4 = (61, [], []) := by unfold opn; rw [if_neg (by omega), if_neg h2]
  rw [nxt_bad (by rw [h1]; decide), h1]
theorem opn_four {s : List Nat} (h : 8 ≤ s.length) (h2 : wordN (s.drop 4) = crc (s.take 4)) : opn s 4 = (0, s.take 4, s.drop 8) := by unfold opn; rw [if_neg (by omega), if_pos h2]
theorem nxt_c60 {s : List Nat} (h : 8 ≤ s.length) (h2 : wordN (s.drop 4) = crc (s.take 4)) (h3 : 4194304 < wordN s) : nxt s = (60, []) := by
  have h1 := opn_four h h2
  exact nxt_big (by rw [h1]) (by rw [h1, wordN_four (by omega)]; exact h3)
theorem nxt_c0 {s : List Nat} (h : 8 ≤ s.length) (h2 : wordN (s.drop 4) = crc (s.take 4)) (h3 : ¬ 4194304 < wordN s) : nxt s = ((opn (s.drop 8) (wordN s)).1, (opn (s.drop 8) (wordN s)).2.1) := by
  have h1 := opn_four h h2
  have h4 := nxt_in (s := s) (by rw [h1]) (by rw [h1, wordN_four (by omega)]; exact h3)
  rw [h1, wordN_four (by omega)] at h4
  exact h4
theorem nxt_d40 {s : List Nat} (h : 8 ≤ s.length) (h2 : wordN (s.drop 4) = crc (s.take 4)) (h3 : ¬ 4194304 < wordN s) (h4 : s.length < wordN s + 12) : nxt s = (40, []) := by
  rw [nxt_c0 h h2 h3, opn_short (by rw [List.length_drop]; omega)]
theorem nxt_d61 {s : List Nat} (h : 8 ≤ s.length) (h2 : wordN (s.drop 4) = crc (s.take 4)) (h3 : ¬ 4194304 < wordN s) (h4 : ¬ s.length < wordN s + 12) (h5 : wordN (s.drop (8 + wordN s)) ≠ crc ((s.drop 8).take (wordN s))) : nxt s = (61, []) := by
  rw [nxt_c0 h h2 h3]
  have : opn (s.drop 8) (wordN s) = (61, [], []) := by unfold opn; rw [if_neg (by rw [List.length_drop]; omega), List.drop_drop, if_neg h5]
  rw [this]
theorem nxt_good {s : List Nat} (h : 8 ≤ s.length) (h2 : wordN (s.drop 4) = crc (s.take 4)) (h3 : ¬ 4194304 < wordN s) (h4 : ¬ s.length < wordN s + 12) (h5 : wordN (s.drop (8 + wordN s)) = crc ((s.drop 8).take (wordN s))) : nxt s = (0, (s.drop 8).take (wordN s)) := by
  rw [nxt_c0 h h2 h3]
  have : opn (s.drop 8) (wordN s) = (0, (s.drop 8).take (wordN s), (s.drop 8).drop (wordN s + 4)) := by unfold opn; rw [if_neg (by rw [List.length_drop]; omega), List.drop_drop, if_pos h5]
  rw [this]
theorem rword_own (z : Nat) (w : World) (hz : z < 4294967296) : Calls Tryz.prog 39 #[.int .u32 (z : Int)] w (fun e w' => e = .returned (.slice (some ⟨w.heap.size, 0, none⟩) 4 4) ∧ w'.ownsRow w.heap.size 5 1 (.slice (some ⟨w.heap.size, 0, none⟩) 4 4) 4 ((wordL z).map bv) ∧ Below w.heap.size w w') := by
  go_enter Tryz.func39, Tryz.ntmps39
  go_wp2
  go_ret
  refine ⟨rfl, ?_, (Below.refl _ _).alloc (Nat.le_refl _) _⟩
  refine ⟨rfl, .inr ⟨w.heap.size, 4, _, rfl, Nat.le_refl _, Blk.new w _ _, Nat.le_refl _, by decide, rfl, ?_⟩⟩
  simp [wordL, bv]
set_option maxRecDepth 100000 in
set_option maxHeartbeats 8000000 in
theorem rFrame_any (A : Option Addr) (l cap : Nat) (xs : List Nat) (w : World) (hr : Hid (RdB w A l cap xs)) : Calls Tryz.prog 17 #[.slice A l cap] w (RetFrm xs l w) := by
  have hl := hr.out.len
  by_cases hb : 4194304 < l
  · have d1 : decide ((l : Int) > 4194304) = true := decide_eq_true (by omega)
    have d2 : decide (4194304 < l) = true := decide_eq_true hb
    have HB := Lib.hid hb
    clear hb hl
    go_enter Tryz.func17, Tryz.ntmps17
    go_wp2
    go_ret2
    exact ⟨Below.refl _ _, by rw [if_pos HB.out]; rfl⟩
  · have d1 : decide ((l : Int) > 4194304) = false := decide_eq_false (by omega)
    have d2 : decide (4194304 < l) = false := decide_eq_false hb
    have HNB := Lib.hid hb
    have hle : l ≤ 4194304 := by omega
    have HF := Lib.hid (show fr xs = ((wordL l ++ wordL (crc (wordL l))) ++ xs) ++ wordL (crc xs) from by unfold fr seal_; rw [hl]; simp only [List.append_assoc])
    have HWB := Lib.hid (wordL_byt' (n := l) hle)
    have HXL := Lib.hid hl
    have hc1 := crc_lt HWB.out
    have hc2 := crc_lt hr.out.2.1
    have hw2 : IntKind.u32.wrap (l : Int) = (l : Int) := by simp only [IntKind.wrap, IntKind.signed, IntKind.bits]; simp; omega
    have HLM := Lib.hid (show l ≤ maxLen from by unfold maxLen; omega)
    have tk1 := True.intro
    have tk2 := True.intro
    have tk3 := True.intro
    have tk4 := True.intro
    have tk7 := True.intro
    clear hb hl
    go_enter Tryz.func17, Tryz.ntmps17
    go_wp2_with (first
      | (have _t := tk1; go_at_call 39; refine (rword_own l _ (by omega)).mono ?_; rintro e w1 ⟨rfl, ho, hb⟩
         have HB1 := Lib.hid (hb)
         have HZ1 := Lib.hid (HB1.out.size)
         have HW1 := Lib.hid ho
         have HO1 := HW1
         clear ho hb tk1 _t)
      | (have _t := tk2; go_at_call 40; refine (rcrc_any _ 4 4 (wordL l) _ HWB.out rfl (Reads.of_own HO1.out) (by decide)).mono ?_; rintro e w2 ⟨rfl, rfl⟩
         clear tk2 _t)
      | (have _t := tk3; go_at_call 39; refine (rword_own (crc (wordL l)) _ hc1).mono ?_; rintro e w3 ⟨rfl, ho, hb⟩
         have HB3 := Lib.hid (HB1.out.trans (hb.mono HZ1.out))
         have HZ3 := Lib.hid (HB3.out.size)
         have HW3 := Lib.hid ho
         have HO3 := Lib.hid (own_below HO1.out hb)
         clear ho hb tk3 _t)
      | (have _t := tk4; at_builtin
         refine wpl_append rfl (.tmp 12) (.tmp 15) _ rfl w w.heap.size 5 _ 1 1 Tryz.underlying33 Tryz.infoU8 rfl (by decide) (.slice (some ⟨w.heap.size, 0, none⟩) 4 4) 4 _ rfl HO3.out w3.heap.size (some ⟨w1.heap.size, 0, none⟩) 4 4 _ rfl (Reads.of_own HW3.out) (bv_one _) (by omega) (by decide) HB3.out HZ3.out ?_
         intro v4 w4 hh
         obtain ⟨A4, c4, rfl, -, -⟩ := own_slice hh.out.1
         have HO4 := Lib.hid hh.out.1
         have HB4 := Lib.hid hh.out.2.1
         have HZ4 := Lib.hid hh.out.2.2
         have HX4 := Lib.hid (hr.out.1.later HB4.out)
         clear hh tk4 _t)
      | (at_builtin
         refine wpl_append rfl (.tmp 17) (.tmp 18) _ rfl w w.heap.size 5 _ 1 1 Tryz.underlying33 Tryz.infoU8 rfl (by decide) (.slice A4 (4 + 4) c4) (4 + 4) _ rfl HO4.out w4.heap.size A l cap (xs.map bv) rfl HX4.out (bv_one _) (by omega) (by decide) HB4.out HZ4.out ?_
         intro v5 w5 hh
         obtain ⟨A5, c5, rfl, -, -⟩ := own_slice hh.out.1
         have HO5 := Lib.hid hh.out.1
         have HB5 := Lib.hid hh.out.2.1
         have HZ5 := Lib.hid hh.out.2.2
         have HX5 := Lib.hid (hr.out.1.later HB5.out)
         clear hh)
      | (go_at_call 40; refine (rcrc_any A cap l xs _ hr.out.2.1 HXL.out HX5.out HLM.out).mono ?_; rintro e w6 ⟨rfl, rfl⟩)
      | (have _t := tk7; go_at_call 39; refine (rword_own (crc xs) _ hc2).mono ?_; rintro e w7 ⟨rfl, ho, hb⟩
         have HB7 := Lib.hid (HB5.out.trans (hb.mono HZ5.out))
         have HZ7 := Lib.hid (HB7.out.size)
         have HW7 := Lib.hid ho
         have HO7 := Lib.hid (own_below HO5.out hb)
         clear ho hb tk7 _t)
      | (at_builtin
         refine wpl_append rfl (.tmp 20) (.tmp 23) _ rfl w w.heap.size 5 _ 1 1 Tryz.underlying33 Tryz.infoU8 rfl (by decide) (.slice A5 (4 + 4 + l) c5) (4 + 4 + l) _ rfl HO7.out w7.heap.size (some ⟨w5.heap.size, 0, none⟩) 4 4 _ rfl (Reads.of_own HW7.out) (bv_one _) (by omega) (by decide) HB7.out HZ7.out ?_
         intro v8 w8 hh
         have HO8 := Lib.hid hh.out.1
         have HB8 := Lib.hid hh.out.2.1
         clear hh))
    go_ret2
    refine ⟨HB8.out, ?_⟩
    rw [if_neg HNB.out]
    refine ⟨v8, rfl, ?_⟩
    rw [HF.out]
    have h4 := HO8.out
    rw [show 4 + 4 + l + 4 = l + 12 from by omega] at h4
    simp only [List.map_append]
    exact h4
theorem quiet_word {P : Program} {f : FuncId} {args : Array Value} {w : World} {n : Nat} {v : Value} (h : Calls P f args (w.drewN n) fun e w' => e = .returned v ∧ (w.drewN n).drew = w') : Calls P f args (w.drewN n) fun e w'' => e = .returned v ∧ ∃ m, w'' = w.drewN m :=
  h.mono fun _ _ ⟨he, hm⟩ => ⟨he, n + 1, hm.symm⟩
theorem quiet_crc {P : Program} {f : FuncId} {args : Array Value} {w : World} {n : Nat} {v : Value} (h : Calls P f args (w.drewN n) fun e w' => e = .returned v ∧ w.drewN n = w') : Calls P f args (w.drewN n) fun e w'' => e = .returned v ∧ ∃ m, w'' = w.drewN m :=
  h.mono fun _ _ ⟨he, hm⟩ => ⟨he, n, hm.symm⟩
theorem frO_bad {xs : List Nat} {at_ : Int} {c : Nat} {w w' : World} (h : frAt xs at_ = (c, [], 0)) (hb : Below w.heap.size w w') : RetFrO xs at_ w (.returned (.tuple #[.slice none 0 0, .int .i64 0, .int .i64 (c : Int)])) w' := by
  refine ⟨hb, .slice none 0 0, ?_, ?_, ?_⟩
  · rw [h]
  · rw [h]; exact ⟨rfl, .inl ⟨rfl, rfl⟩⟩
  · rw [h]; exact fun x h => by cases h
theorem wordN_lt {s : List Nat} (h : Byt s) : wordN s < 4294967296 := by
  unfold wordN
  have b : ∀ k, s.getD k 0 < 256 := fun k => by
    rw [List.getD_eq_getElem?_getD]
    cases q : s[k]? with
    | none => decide
    | some y => exact h y (List.mem_of_getElem? q)
  have := b 0; have := b 1; have := b 2; have := b 3
  omega
set_option maxRecDepth 100000 in
set_option maxHeartbeats 8000000 in
theorem rNext_own (A : Option Addr) (l cap : Nat) (xs : List Nat) (at_ : Int) (w : World) (hr : Hid (RdB w A l cap xs)) (hmx : l ≤ 140737488355328) :
    Calls Tryz.prog 18 #[.slice A l cap, .int .i64 at_] w (RetFrO xs at_ w) := by
  have hl := hr.out.len
  by_cases ho : at_ < 0 ∨ (xs.length : Int) < at_
  · have HE := Lib.hid (frAt_out ho)
    rw [hl] at ho
    by_cases h1 : at_ < 0
    · have d1 : decide (at_ < 0) = true := decide_eq_true h1
      clear ho h1 hmx hl
      go_enter Tryz.func18, Tryz.ntmps18
      go_wp2
      go_ret3
      exact frO_bad HE.out (Below.refl _ _)
    · have d1 : decide (at_ < 0) = false := decide_eq_false h1
      have d2 : decide (at_ > (l : Int)) = true := decide_eq_true (by omega)
      have d3 : decide ((l : Int) < at_) = true := decide_eq_true (by omega)
      clear ho h1 hmx hl
      go_enter Tryz.func18, Tryz.ntmps18
      go_wp2
      go_ret3
      exact frO_bad HE.out (Below.refl _ _)
  · obtain ⟨p, rfl⟩ := Int.eq_ofNat_of_zero_le (show 0 ≤ at_ by omega)
    have d1 : decide ((p : Int) < 0) = false := decide_eq_false (by omega)
    have d2 : decide ((p : Int) > (l : Int)) = false := decide_eq_false (by omega)
    have d3 : decide ((l : Int) < (p : Int)) = false := decide_eq_false (by omega)
    have d4 : decide (l < p) = false := decide_eq_false (by omega)
    have hlc := hr.out.2.2.1
    have hcm := hr.out.2.2.2
    unfold maxLen at hcm
    obtain ⟨A2, hs2, hr2⟩ := slice_tail Tryz.underlying33 Tryz.infoU8 hr.out.1 p (by omega) hlc
    have hR2 := hr2 w hr.out.1
    have hBD : Hid (∀ h : (nxt (xs.drop p)).1 ≠ 0, frAt xs p = ((nxt (xs.drop p)).1, [], 0)) := Lib.hid (fun h => frAt_bad (xs := xs) (p := p) (by omega) h)
    have hOK : Hid ((nxt (xs.drop p)).1 = 0 → frAt xs p = (0, (nxt (xs.drop p)).2, (p : Int) + (nxt (xs.drop p)).2.length + 12)) := Lib.hid (fun h => frAt_ok (xs := xs) (p := p) (by omega) h)
    have hdl : (xs.drop p).length = l - p := by rw [List.length_drop, hl]
    have hby : Byt (xs.drop p) := fun x hx => hr.out.2.1 x (List.mem_of_mem_drop hx)
    have hpl : p ≤ l := by omega
    obtain ⟨L, eL⟩ : ∃ L, l - p = L := ⟨_, rfl⟩
    obtain ⟨C, eC⟩ : ∃ C, cap - p = C := ⟨_, rfl⟩
    have hLC : L ≤ C := by omega
    have hCM : C ≤ 9223372036854775807 := by omega
    have hLp : p + L = l := by omega
    obtain ⟨s, es⟩ : ∃ s, xs.drop p = s := ⟨_, rfl⟩
    rw [es] at hR2 hBD hOK hdl hby
    rw [eL] at hR2 hdl hs2
    rw [eC] at hs2
    have HR := Lib.hid hR2
    have HBY := Lib.hid hby
    have HPL := Lib.hid (And.intro hpl (And.intro hLp hlc))
    clear ho hr2 hR2 hby hl es eL eC hlc hcm hr
    by_cases a1 : L < 8
    · have HE : Hid (frAt xs p = (40, [], 0)) := Lib.hid (by have h := nxt_c40 (s := s) (by omega); have := hBD.out (by rw [h]; decide); rw [h] at this; exact this)
      have f1 : decide ((L : Int) < 8) = true := decide_eq_true (by omega)
      have f2 : decide (L < 8) = true := decide_eq_true a1
      clear a1
      go_enter Tryz.func18, Tryz.ntmps18
      go_wp2
      go_ret3
      exact frO_bad HE.out (Below.refl _ _)
    · have f1 : decide ((L : Int) < 8) = false := decide_eq_false (by omega)
      have f2 : decide (L < 8) = false := decide_eq_false a1
      obtain ⟨A4, hs4, hr4⟩ := slice_tail (cap := C) Tryz.underlying33 Tryz.infoU8 HR.out 4 (by omega) hLC
      have hs5 : ∀ W : World, (Instr.sliceAt 33 (.slice A2 L C) none (some (.int .i64 4)) none).run Tryz.prog W = .ok (.slice A2 4 C) W := fun W => by
        obtain ⟨i0, hi0, hz0, hz1, hz2⟩ := info_parts Tryz.infoU8
        exact slice_to Tryz.underlying33 hi0 hz1 A2 L C 4 (by omega) W
      have hs4' : ∀ W : World, (Instr.sliceAt 33 (.slice A2 L C) (some (.int .i64 4)) none none).run Tryz.prog W = .ok (.slice A4 (L - 4) (C - 4)) W := hs4
      have H4 := Lib.hid (hr4 w HR.out)
      have H5 : Hid (Reads w w.heap.size 1 A2 4 ((s.take 4).map bv)) := Lib.hid (by
        have := HR.out.first (k := 4) (by omega)
        rw [← List.map_take] at this
        exact this)
      have hb4 : Byt (s.drop 4) := fun x hx => HBY.out x (List.mem_of_mem_drop hx)
      have hb5 : Byt (s.take 4) := fun x hx => HBY.out x (List.mem_of_mem_take hx)
      have hl5 : (s.take 4).length = 4 := by rw [List.length_take]; omega
      have HW1 := Lib.hid (fun W h => rrword_any A4 (L - 4) (C - 4) (s.drop 4) W h hb4 (by omega))
      have HC1 := Lib.hid (fun W h => rcrc_any A2 C 4 (s.take 4) W hb5 hl5 h (by unfold maxLen; omega))
      have HW2 := Lib.hid (fun W h => rrword_any A2 L C s W h HBY.out (by omega))
      clear hs4 hr4 hb4 hb5 hl5
      by_cases a2 : wordN (s.drop 4) = crc (s.take 4)
      · have g1 : decide ((wordN (s.drop 4) : Int) ≠ (crc (s.take 4) : Int)) = false := by simp [a2]
        obtain ⟨n, en⟩ : ∃ n, wordN s = n := ⟨_, rfl⟩
        have hnl : n < 4294967296 := by rw [← en]; exact wordN_lt HBY.out
        rw [a2] at HW1
        rw [en] at HW2
        by_cases a3 : 4194304 < n
        · have HE : Hid (frAt xs p = (60, [], 0)) := Lib.hid (by have h := nxt_c60 (s := s) (by omega) a2 (by rw [en]; exact a3); have := hBD.out (by rw [h]; decide); rw [h] at this; exact this)
          have j1 : decide ((n : Int) > 4194304) = true := decide_eq_true (by omega)
          have j2 : decide (4194304 < n) = true := decide_eq_true a3
          clear a1 a2 g1 a3 en
          go_enter Tryz.func18, Tryz.ntmps18
          go_wp2_with fail
          go_quiet (first
            | (go_at_call 41; exact quiet_word (HW1.out _ H4))
            | (go_at_call 40; exact quiet_crc (HC1.out _ H5.out)))
          obtain ⟨wq, hwq⟩ : ∃ wq, w.drewN nq = wq := ⟨_, rfl⟩
          have BQ := Lib.hid (show Below w.heap.size w wq from by rw [← hwq]; exact bel_drewN (Below.refl _ _) _)
          rw [hwq]
          clear hwq HW1 HC1
          have RQ : Hid (Reads wq wq.heap.size 1 A2 L (s.map bv)) := Lib.hid (HR.out.later BQ.out)
          go_wp2_with (go_at_call 41; refine (HW2.out _ RQ).mono ?_; rintro ev w3 ⟨rfl, hw3⟩
                       have B3 := Lib.hid (show Below w.heap.size w w3 from by rw [← hw3]; exact BQ.out.drew)
                       clear hw3)
          go_ret3
          exact frO_bad HE.out B3.out
        · have j1 : decide ((n : Int) > 4194304) = false := decide_eq_false (by omega)
          have j2 : decide (4194304 < n) = false := decide_eq_false a3
          have hw : IntKind.i64.wrap (n : Int) = (n : Int) := by simp only [IntKind.wrap, IntKind.signed, IntKind.bits]; simp; omega
          have hw12 : IntKind.i64.wrap ((n : Int) + 12) = (n : Int) + 12 := by simp only [IntKind.wrap, IntKind.signed, IntKind.bits]; simp; omega
          have hw8 : IntKind.i64.wrap (8 + (n : Int)) = 8 + (n : Int) := by simp only [IntKind.wrap, IntKind.signed, IntKind.bits]; simp; omega
          by_cases a4 : L < n + 12
          · have HE : Hid (frAt xs p = (40, [], 0)) := Lib.hid (by have h := nxt_d40 (s := s) (by omega) a2 (by rw [en]; exact a3) (by rw [en]; omega); have := hBD.out (by rw [h]; decide); rw [h] at this; exact this)
            have k1 : decide ((L : Int) < (n : Int) + 12) = true := decide_eq_true (by omega)
            clear a1 a2 g1 a3 en a4
            go_enter Tryz.func18, Tryz.ntmps18
            go_wp2_with fail
            go_quiet (first
              | (go_at_call 41; exact quiet_word (HW1.out _ H4))
              | (go_at_call 40; exact quiet_crc (HC1.out _ H5.out)))
            obtain ⟨wq, hwq⟩ : ∃ wq, w.drewN nq = wq := ⟨_, rfl⟩
            have BQ := Lib.hid (show Below w.heap.size w wq from by rw [← hwq]; exact bel_drewN (Below.refl _ _) _)
            rw [hwq]
            clear hwq HW1 HC1
            have RQ : Hid (Reads wq wq.heap.size 1 A2 L (s.map bv)) := Lib.hid (HR.out.later BQ.out)
            go_wp2_with (go_at_call 41; refine (HW2.out _ RQ).mono ?_; rintro ev w3 ⟨rfl, hw3⟩
                         have B3 := Lib.hid (show Below w.heap.size w w3 from by rw [← hw3]; exact BQ.out.drew)
                         clear hw3)
            go_ret3
            exact frO_bad HE.out B3.out
          · have k1 : decide ((L : Int) < (n : Int) + 12) = false := decide_eq_false (by omega)
            obtain ⟨A6, hs6, hr6⟩ := slice_tail (cap := C) Tryz.underlying33 Tryz.infoU8 HR.out (8 + n) (by omega) hLC
            obtain ⟨A7, hs7, hr7⟩ := slice_mid (cap := C) Tryz.underlying33 Tryz.infoU8 HR.out 8 (8 + n) (by omega) (by omega) hLC
            have hs6' : ∀ W : World, (Instr.sliceAt 33 (.slice A2 L C) (some (.int .i64 (8 + (n : Int)))) none none).run Tryz.prog W = .ok (.slice A6 (L - (8 + n)) (C - (8 + n))) W := fun W => by
              have := hs6 W
              rw [show ((8 + n : Nat) : Int) = 8 + (n : Int) from by omega] at this
              exact this
            have hs7' : ∀ W : World, (Instr.sliceAt 33 (.slice A2 L C) (some (.int .i64 8)) (some (.int .i64 (8 + (n : Int)))) none).run Tryz.prog W = .ok (.slice A7 n (C - 8)) W := fun W => by
              have := hs7 W
              rw [show ((8 + n : Nat) : Int) = 8 + (n : Int) from by omega, show 8 + n - 8 = n from by omega] at this
              exact this
            have H6 := Lib.hid (hr6 w HR.out)
            have H7 : Hid (Reads w w.heap.size 1 A7 n (((s.drop 8).take n).map bv)) := Lib.hid (by
              have := hr7 w HR.out
              rw [show 8 + n - 8 = n from by omega] at this
              exact this)
            have hb6 : Byt (s.drop (8 + n)) := fun x hx => HBY.out x (List.mem_of_mem_drop hx)
            have hb7 : Byt ((s.drop 8).take n) := fun x hx => HBY.out x (List.mem_of_mem_drop (List.mem_of_mem_take hx))
            have hl7 : ((s.drop 8).take n).length = n := by rw [List.length_take, List.length_drop]; omega
            have HW3 := Lib.hid (fun W h => rrword_any A6 (L - (8 + n)) (C - (8 + n)) (s.drop (8 + n)) W h hb6 (by omega))
            have HC3 := Lib.hid (fun W h => rcrc_any A7 (C - 8) n ((s.drop 8).take n) W hb7 hl7 h (by unfold maxLen; omega))
            have HB7 := Lib.hid (And.intro hb7 hl7)
            clear hs6 hs7 hr6 hr7 hb6 hb7 hl7
            by_cases a5 : wordN (s.drop (8 + n)) = crc ((s.drop 8).take n)
            · have hg := nxt_good (s := s) (by omega) a2 (by rw [en]; exact a3) (by rw [en]; omega) (by rw [en]; exact a5)
              rw [en] at hg
              obtain ⟨ys, ey⟩ : ∃ ys, (s.drop 8).take n = ys := ⟨_, rfl⟩
              rw [ey] at hg HB7 H7 HC3 a5
              have HE : Hid (frAt xs p = (0, ys, (p : Int) + n + 12)) := Lib.hid (by have := hOK.out (by rw [hg]); rw [hg, HB7.out.2] at this; exact this)
              rw [a5] at HW3
              have hwp : IntKind.i64.wrap ((p : Int) + (n : Int)) = (p : Int) + (n : Int) := by have := HPL.out; simp only [IntKind.wrap, IntKind.signed, IntKind.bits]; simp; omega
              have hwq : IntKind.i64.wrap ((p : Int) + (n : Int) + 12) = (p : Int) + (n : Int) + 12 := by have := HPL.out; simp only [IntKind.wrap, IntKind.signed, IntKind.bits]; simp; omega
              have HCP := Lib.hid (fun W h => copy_any A7 (C - 8) n (ys.map bv) W h (bv_one ys) (by omega))
              clear a1 a2 g1 a3 en a4 a5 hg ey
              go_enter Tryz.func18, Tryz.ntmps18
              go_wp2_with fail
              go_quiet (first
                | (go_at_call 41; exact quiet_word (HW1.out _ H4))
                | (go_at_call 40; exact quiet_crc (HC1.out _ H5.out)))
              obtain ⟨wq, hwq⟩ : ∃ wq, w.drewN nq = wq := ⟨_, rfl⟩
              have BQ := Lib.hid (show Below w.heap.size w wq from by rw [← hwq]; exact bel_drewN (Below.refl _ _) _)
              rw [hwq]
              clear hwq HW1 HC1
              have RQ : Hid (Reads wq wq.heap.size 1 A2 L (s.map bv)) := Lib.hid (HR.out.later BQ.out)
              go_wp2_with (go_at_call 41; refine (HW2.out _ RQ).mono ?_; rintro ev w3 ⟨rfl, hw3⟩
                           have B3 := Lib.hid (show Below w.heap.size w w3 from by rw [← hw3]; exact BQ.out.drew)
                           clear hw3)
              have H6q := Lib.hid (H6.out.later B3.out)
              have H7q := Lib.hid (H7.out.later B3.out)
              go_quiet (first
                | (go_at_call 41; exact quiet_word (HW3.out _ H6q))
                | (go_at_call 40; exact quiet_crc (HC3.out _ H7q.out)))
              obtain ⟨wq2, hwq⟩ : ∃ wq2, w3.drewN nq = wq2 := ⟨_, rfl⟩
              have B4 := Lib.hid (show Below w.heap.size w wq2 from by rw [← hwq]; exact bel_drewN B3.out _)
              rw [hwq]
              clear hwq HW3 HC3 H6q H7q
              have H8q := Lib.hid (H7.out.later B4.out)
              go_wp2_with (go_at_call 42; refine (HCP.out _ H8q.out).mono ?_; rintro ev w6 hh; obtain ⟨v6, rfl, ho6, hb6⟩ := hh
                           obtain ⟨A6', c6, rfl, -, -⟩ := own_slice ho6
                           have HO6 := Lib.hid (row_base ho6 B4.out.size)
                           have HB6 := Lib.hid (B4.out.trans (hb6.mono B4.out.size))
                           clear ho6 hb6)
              go_ret3
              refine ⟨HB6.out, .slice A6' ys.length c6, ?_, ?_, ?_⟩
              · rw [HE.out]; rfl
              · rw [HE.out]
                have h6 := HO6.out
                rw [List.length_map] at h6
                exact h6
              · rw [HE.out]; exact HB7.out.1
            · have HE : Hid (frAt xs p = (61, [], 0)) := Lib.hid (by have h := nxt_d61 (s := s) (by omega) a2 (by rw [en]; exact a3) (by rw [en]; omega) (by rw [en]; exact a5); have := hBD.out (by rw [h]; decide); rw [h] at this; exact this)
              obtain ⟨c1, hc1⟩ : ∃ c, wordN (s.drop (8 + n)) = c := ⟨_, rfl⟩
              obtain ⟨c2, hc2⟩ : ∃ c, crc ((s.drop 8).take n) = c := ⟨_, rfl⟩
              have hne : (c1 : Int) ≠ (c2 : Int) := fun h => a5 (by rw [hc1, hc2]; exact_mod_cast h)
              rw [hc1] at HW3
              rw [hc2] at HC3
              have g3 : ((c1 : Int) == (c2 : Int)) = false := by rw [beq_eq_false_iff_ne]; exact hne
              have g4 : ((c1 : Int) != (c2 : Int)) = true := by rw [bne, g3]; rfl
              have g5 : decide ((c1 : Int) = (c2 : Int)) = false := decide_eq_false hne
              have g6 : decide (c1 = c2) = false := decide_eq_false (fun h => hne (by rw [h]))
              have g7 : (c1 == c2) = false := by rw [beq_eq_false_iff_ne]; exact fun h => hne (by rw [h])
              clear a1 a2 g1 a3 en a4 a5 hc1 hc2 hne
              go_enter Tryz.func18, Tryz.ntmps18
              go_wp2_with fail
              go_quiet (first
                | (go_at_call 41; exact quiet_word (HW1.out _ H4))
                | (go_at_call 40; exact quiet_crc (HC1.out _ H5.out)))
              obtain ⟨wq, hwq⟩ : ∃ wq, w.drewN nq = wq := ⟨_, rfl⟩
              have BQ := Lib.hid (show Below w.heap.size w wq from by rw [← hwq]; exact bel_drewN (Below.refl _ _) _)
              rw [hwq]
              clear hwq HW1 HC1
              have RQ : Hid (Reads wq wq.heap.size 1 A2 L (s.map bv)) := Lib.hid (HR.out.later BQ.out)
              go_wp2_with (go_at_call 41; refine (HW2.out _ RQ).mono ?_; rintro ev w3 ⟨rfl, hw3⟩
                           have B3 := Lib.hid (show Below w.heap.size w w3 from by rw [← hw3]; exact BQ.out.drew)
                           clear hw3)
              have H6q := Lib.hid (H6.out.later B3.out)
              have H7q := Lib.hid (H7.out.later B3.out)
              go_quiet (first
                | (go_at_call 41; exact quiet_word (HW3.out _ H6q))
                | (go_at_call 40; exact quiet_crc (HC3.out _ H7q.out)))
              obtain ⟨wq2, hwq⟩ : ∃ wq2, w3.drewN nq = wq2 := ⟨_, rfl⟩
              have B4 := Lib.hid (show Below w.heap.size w wq2 from by rw [← hwq]; exact bel_drewN B3.out _)
              rw [hwq]
              clear hwq HW3 HC3 H6q H7q
              go_wp2
              go_ret3
              exact frO_bad HE.out B4.out
      · have HE : Hid (frAt xs p = (61, [], 0)) := Lib.hid (by have h := nxt_c61 (s := s) (by omega) a2; have := hBD.out (by rw [h]; decide); rw [h] at this; exact this)
        obtain ⟨c1, hc1⟩ : ∃ c, wordN (s.drop 4) = c := ⟨_, rfl⟩
        obtain ⟨c2, hc2⟩ : ∃ c, crc (s.take 4) = c := ⟨_, rfl⟩
        have hne : (c1 : Int) ≠ (c2 : Int) := fun h => a2 (by rw [hc1, hc2]; exact_mod_cast h)
        rw [hc1] at HW1
        rw [hc2] at HC1
        have g3 : ((c1 : Int) == (c2 : Int)) = false := by rw [beq_eq_false_iff_ne]; exact hne
        have g4 : ((c1 : Int) != (c2 : Int)) = true := by rw [bne, g3]; rfl
        have g5 : decide ((c1 : Int) = (c2 : Int)) = false := decide_eq_false hne
        have g6 : decide (c1 = c2) = false := decide_eq_false (fun h => hne (by rw [h]))
        have g7 : (c1 == c2) = false := by rw [beq_eq_false_iff_ne]; exact fun h => hne (by rw [h])
        clear a1 a2 hc1 hc2 hne HW2
        go_enter Tryz.func18, Tryz.ntmps18
        go_wp2_with fail
        go_quiet (first
          | (go_at_call 41; exact quiet_word (HW1.out _ H4))
          | (go_at_call 40; exact quiet_crc (HC1.out _ H5.out)))
        obtain ⟨wq, hwq⟩ : ∃ wq, w.drewN nq = wq := ⟨_, rfl⟩
        have BQ := Lib.hid (show Below w.heap.size w wq from by rw [← hwq]; exact bel_drewN (Below.refl _ _) _)
        rw [hwq]
        clear hwq HW1 HC1
        go_wp2
        go_ret3
        exact frO_bad HE.out BQ.out
end Go.Proofs.YtlnneacgllhdhaaGreatDoor
end
section
namespace Go.Proofs.YtlnneacgllhdhaaGreatDoor
open Go.RowKit OctMath
set_option linter.unusedVariables false
set_option linter.unusedSimpArgs false
set_option maxRecDepth 100000 in
set_option maxHeartbeats 4000000 in
theorem rAll_any (A : Option Addr) (l cap : Nat) (xs : List Nat) (w : World) (hr : Hid (RdB w A l cap xs)) (hmx : l ≤ 10000000000000) :
    Calls Tryz.prog 19 #[.slice A l cap] w (RetAll xs w) := by
  have hl := hr.out.len
  have HL := Lib.hid hl
  clear hl
  go_enter Tryz.func19, Tryz.ntmps19
  go_wp2_with fail
  go_loopw [4, 5, 6, 7, 8] (fun vo vi _ _ _ wr => ∃ k : Nat, Hid (∀ j, j < k → goodN xs j) ∧ vi = .int .i64 ((stepN xs k).2 : Nat) ∧ Hid (MSt w vo (stepN xs k).1 wr)) (fun _ vi _ _ _ _ => l - (intOf vi).toNat)
  case atStart => exact ⟨0, Lib.hid (fun j h => absurd h (by omega)), rfl, Lib.hid (MSt.nil (Below.refl _ _))⟩
  case round =>
    obtain ⟨k, hgd, rfl, hst⟩ := hrel
    obtain ⟨Ao, co, rfl, -⟩ := hst.out.own.slice
    have hb := stepN_bound k hgd.out
    have hlen := stepN_len xs k
    have hRw := Lib.hid (hr.out.later hst.out.bel)
    
    by_cases hk : goodN xs k
    · have hn := nxt_drop_len hk
      have hF := frAt_ok (xs := xs) (p := (stepN xs k).2) hb.2 hk
      have HK1 : Hid (stepN xs (k + 1) = ((stepN xs k).1 ++ [(nxt (xs.drop (stepN xs k).2)).2], (stepN xs k).2 + (nxt (xs.drop (stepN xs k).2)).2.length + 12)) := Lib.hid rfl
      have HGD : Hid (∀ j, j < k + 1 → goodN xs j) := Lib.hid (fun j hj => by
        rcases Nat.lt_or_eq_of_le (Nat.lt_succ_iff.1 hj) with h | h
        · exact hgd.out j h
        · rw [h]; exact hk)
      rw [HL.out] at hb hn
      obtain ⟨ys, ey⟩ : ∃ ys, (nxt (xs.drop (stepN xs k).2)).2 = ys := ⟨_, rfl⟩
      obtain ⟨m, em⟩ : ∃ m, ys.length = m := ⟨_, rfl⟩
      rw [ey] at hF HK1 hn
      rw [em] at hF HK1 hn
      obtain ⟨p, ep⟩ : ∃ p, (stepN xs k).2 = p := ⟨_, rfl⟩
      obtain ⟨ls, els⟩ : ∃ ls, (stepN xs k).1 = ls := ⟨_, rfl⟩
      rw [ep] at hF HK1 hn hb ⊢
      rw [els] at HK1 hst hlen ⊢
      have HEM := Lib.hid em
      have HLEN := Lib.hid hlen
      have HC := Lib.hid ((rNext_own A l cap xs (p : Int) wr hRw (by omega)).mono fun e w' h => frO_ok hF em h)
      clear hF hk ey em ep els hlen hRw 
      go_wp2_with (first
        | (go_at_call 18; refine HC.out.mono ?_; rintro e w1 ⟨hb1, v1, rfl, ho, hy⟩
           obtain ⟨A1, c1, rfl, -, -⟩ := own_slice ho
           have HST := Lib.hid (hst.out.below hb1)
           have HO := Lib.hid (row_base ho hst.out.bel.size)
           have HY := Lib.hid hy
           clear hb1 ho hy)
        | (at_builtin
           refine wpl_row rfl (.tmp 20) (.tmp 22) rfl HST.out (by have := HLEN.out; omega) (.slice A1 m c1) ys (by rw [HEM.out]; exact HO.out) HY.out rfl rfl rfl ?_
           intro v2 w2 hh))
      exact ⟨⟨k + 1, HGD, by rw [HK1.out]; simp, Lib.hid (by rw [HK1.out]; exact hh.out.1)⟩, by simp [intOf]; omega⟩
    · have hF := frAt_bad (xs := xs) (p := (stepN xs k).2) hb.2 hk
      have HNK : Hid (¬ goodN xs k) := Lib.hid hk
      unfold goodN at hk
      obtain ⟨c, ec⟩ : ∃ c, (nxt (xs.drop (stepN xs k).2)).1 = c := ⟨_, rfl⟩
      rw [ec] at hF hk
      obtain ⟨s, es⟩ : ∃ s, stepN xs k = s := ⟨_, rfl⟩
      have HS := Lib.hid es
      rw [es] at hF hst ⊢
      have HC := Lib.hid ((rNext_own A l cap xs (s.2 : Int) wr hRw (by omega)).mono fun e w' h => frO_no hF h)
      have j1 : ((c : Int) == 0) = false := by rw [beq_eq_false_iff_ne]; omega
      have j2 : ((c : Int) != 0) = true := by rw [bne, j1]; rfl
      have j3 : decide ((c : Int) = 0) = false := decide_eq_false (by omega)
      have j4 : (c == 0) = false := by rw [beq_eq_false_iff_ne]; omega
      clear hF hk ec es hRw 
      go_wp2_with (first
        | (go_at_call 18; refine HC.out.mono ?_; rintro e w1 ⟨hb1, v1, rfl⟩
           have HST := Lib.hid (hst.out.below hb1)
           clear hb1))
      go_ret2
      exact ⟨_, s.1, s.2, rfl, ⟨k, hgd.out, HNK.out, HS.out⟩, HST.out⟩
end Go.Proofs.YtlnneacgllhdhaaGreatDoor
end
section
namespace Go.Proofs.YtlnneacgllhdhaaGreatDoor
open Go.RowKit Go.ChangeShapes Go.WideShapes
set_option linter.unusedVariables false
theorem et0 : Tryz.prog.globalNamed "errors.errorType" = some 0 := by kernel_rfl
theorem rt0 : (Tryz.prog.cutTypes.find? (·.1 == "internal/reflectlite.rtype")).map (·.2) = some 216 := by kernel_rfl
theorem oneRow0 : ((List.range 266).filter fun t => Tryz.prog.rowNamed t [101, 114, 114, 111, 114]) = [101] := by kernel_rfl
theorem tsize0 : Tryz.prog.types.size = 266 := by kernel_rfl
abbrev laid0 : List (String × DataW Unit) := [("errors.errorType", Rows.laid_errors_errorType)]
theorem ge_of_laid {W : World} (h : laidMetH Tryz.prog laid0 W) : GE W := by
  have h' : laidMet Tryz.prog [] W ∧ handlesMet Tryz.prog laid0 W := h
  obtain ⟨name, u, ty, e1, e2, e3, e4, e5⟩ := h'.2 _ (List.mem_singleton.2 rfl)
  have en : name = [101, 114, 114, 111, 114] := (Option.some.inj e1).symm
  subst en
  obtain rfl := Option.some.inj (rt0.symm.trans e2)
  have hm : ty ∈ (List.range 266).filter fun t => Tryz.prog.rowNamed t [101, 114, 114, 111, 114] := List.mem_filter.2 ⟨List.mem_range.2 (by rw [← tsize0]; exact e3), e4⟩
  rw [oneRow0] at hm
  obtain rfl := List.mem_singleton.1 hm
  have hh : typeHandle Tryz.prog 101 = .pointer (some ⟨1, 101, none⟩) := by kernel_rfl
  rw [hh] at e5
  unfold GE
  simpa using World.var?_cell et0 e5 0
/-- A world that meets the condition: the settled one, the variable's cell laid. -/
noncomputable def laidWorld (os : Os) : World :=
  let w0 := World.holding Tryz.prog os ⟨#[], #[], []⟩
  { w0 with heap := w0.heap.modify 0 fun
      | .cells _ t frozen => .cells #[.iface 216 (.agg #[.pointer (some ⟨1, 101, none⟩)])] t frozen
      | o => o }
theorem laid_met (os : Os) (args : Array Value) : laidMetH Tryz.prog laid0 ((laidWorld os).forCall (fun _ _ => 0) ⟨#[], args, []⟩).memory :=
  laidMetH_of_parts (laidMet_nil _ _) (by kernel_rfl)
end Go.Proofs.YtlnneacgllhdhaaGreatDoor
end
