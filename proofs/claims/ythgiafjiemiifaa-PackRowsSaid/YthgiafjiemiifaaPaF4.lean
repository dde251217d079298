/-
  THE REFERENCE'S BYTES, every place.
-/
import Derived.Test.YthgiafjiemiifaaPaF3
namespace Go.Proofs.Ythgiafjiemiifaa
open Go.RowKit OctMath
set_option linter.unusedVariables false
set_option maxRecDepth 100000 in
set_option maxHeartbeats 2000000 in
theorem rbytes_any (A : Option Addr) (cap n : Nat) (at_ : Int) (bs : List Nat) (w : World) (hb : Byt bs) (hn : bs.length = n) (hr : Reads w w.heap.size 1 A n (bs.map bv)) (hc : n ≤ cap) (hm : cap ≤ maxLen) (hn2 : n ≤ 140737488351232) :
    Calls Try.prog 102 #[.slice A n cap, .int .i64 at_, .int .i64 1048576] w (RetB3 (rdB bs at_ 1048576) w) := by
  obtain ⟨h1, h2, h3⟩ := rdN_lt bs at_ hb
  have HC := Lib.hid (rnumber_any A cap n at_ bs w hb hn hr hc hm)
  have hdef : rdB bs at_ 1048576 = (if (rdN bs at_).2.2 ≠ 0 then ([], 0, (rdN bs at_).2.2)
      else if (1048576 : Int) < 0 ∨ (1048576 : Int) < (rdN bs at_).1 ∨ (bs.length : Int) - (rdN bs at_).2.1 < (rdN bs at_).1 then ([], 0, 40)
      else ((bs.drop (rdN bs at_).2.1.toNat).take (rdN bs at_).1, (rdN bs at_).2.1 + (rdN bs at_).1, 0)) := rfl
  obtain ⟨v, hv⟩ : ∃ v, (rdN bs at_).1 = v := ⟨_, rfl⟩
  obtain ⟨p0, hp⟩ : ∃ p, (rdN bs at_).2.1 = p := ⟨_, rfl⟩
  obtain ⟨er, he⟩ : ∃ er, (rdN bs at_).2.2 = er := ⟨_, rfl⟩
  rw [hv, hp, he] at HC hdef
  rw [hv] at h1
  rw [hp] at h2 h3
  obtain ⟨p, rfl⟩ := Int.eq_ofNat_of_zero_le h2
  rw [hn] at h3 hdef
  have HR := Lib.hid hr
  have HD := Lib.hid hdef
  clear hv hp he hr hdef
  by_cases e0 : er = 0
  · subst e0
    have hd2 := HD.out
    rw [if_neg (by simp)] at hd2
    obtain ⟨d, ed⟩ : ∃ d, n - p = d := ⟨_, rfl⟩
    have e1 : IntKind.i64.wrap ((n : Int) - (p : Int)) = (d : Int) := by rw [IntKind.wrap_i64]; omega
    have e2 : IntKind.u64.wrap (d : Int) = (d : Int) := by rw [IntKind.wrap_u64]; omega
    have e3 : IntKind.u64.wrap ((n : Int) - (p : Int)) = (d : Int) := by rw [IntKind.wrap_u64]; omega
    by_cases c1 : d < v
    · rw [if_pos (by omega)] at hd2
      rw [hd2]
      have d1 : decide ((v : Int) > (d : Int)) = true := decide_eq_true (by omega)
      have d2 : decide (d < v) = true := decide_eq_true c1
      clear HD hd2 ed c1
      go_enter Try.func102, Try.ntmps102
      go_wp2_with (go_at_call 93; refine HC.out.mono ?_; rintro e w' ⟨rfl, rfl⟩)
      go_ret3
      exact retB3_nil 40 _
    · have d1 : decide ((v : Int) > (d : Int)) = false := decide_eq_false (by omega)
      have d2 : decide (d < v) = false := decide_eq_false c1
      by_cases c2 : 1048576 < v
      · rw [if_pos (by omega)] at hd2
        rw [hd2]
        have d3 : decide ((v : Int) > 1048576) = true := decide_eq_true (by omega)
        have d4 : decide (1048576 < v) = true := decide_eq_true c2
        clear HD hd2 ed c1 c2
        go_enter Try.func102, Try.ntmps102
        go_wp2_with (go_at_call 93; refine HC.out.mono ?_; rintro e w' ⟨rfl, rfl⟩)
        go_ret3
        exact retB3_nil 40 _
      · rw [if_neg (by omega)] at hd2
        rw [hd2]
        have d3 : decide ((v : Int) > 1048576) = false := decide_eq_false (by omega)
        have d4 : decide (1048576 < v) = false := decide_eq_false c2
        have e5 : IntKind.i64.wrap (v : Int) = (v : Int) := by rw [IntKind.wrap_i64]; omega
        have c4 : p + v ≤ n := by omega
        obtain ⟨i0, hi, k2, k3, k4⟩ := info_parts Try.infoU8
        have hsl : ∀ W : World, (Instr.sliceAt 22 (.slice A n cap) (some (.int .i64 (p : Int))) (some (.int .i64 ((p : Int) + (v : Int)))) none).run Try.prog W = .ok (.slice (if cap = p then A else A.map (·.add (p * 1))) v (cap - p)) W := fun W => by
          have := slice_both Try.underlying22 hi k3 A n cap p (p + v) (by omega) (by omega) W
          rw [show p + v - p = v from by omega, Int.natCast_add] at this
          exact this
        have hcut := HR.out.cut (k := p) (by omega) hc
        obtain ⟨A2, hA2⟩ : ∃ A2, (if cap = p then A else A.map (·.add (p * 1))) = A2 := ⟨_, rfl⟩
        rw [hA2] at hsl hcut
        rw [Nat.mul_one, ← List.map_drop] at hcut
        have hlen : ((bs.drop p).take v).length = v := by simp [hn]; omega
        have hrd : Reads w w.heap.size 1 A2 v (((bs.drop p).take v).map bv) := by
          refine ⟨by rw [List.length_map, hlen, Nat.mul_one], fun hv0 => ?_⟩
          obtain ⟨ad, ea, hbl, hcells⟩ := hcut.2 (by omega)
          refine ⟨ad, ea, hbl, fun j u hu => hcells j u ?_⟩
          rw [List.map_take] at hu
          have hj : j < v := by
            have := (List.getElem?_eq_some_iff.1 hu).1
            rw [List.length_take] at this; omega
          rw [List.getElem?_take_of_lt hj] at hu
          exact hu
        obtain ⟨zs, hz⟩ : ∃ zs, (bs.drop p).take v = zs := ⟨_, rfl⟩
        rw [hz] at hrd hlen
        rw [show (bs.drop ((p : Int)).toNat).take v = zs from hz]
        have HRD := Lib.hid hrd
        have HL := Lib.hid hlen
        have hv9 : v ≤ 140737488351232 := by omega
        clear hcut hA2 hrd hlen hi k2 k3 k4 hz HD hd2 ed c1 c2
        go_enter Try.func102, Try.ntmps102
        go_wp2_with (first
          | (go_at_call 93; refine HC.out.mono ?_; rintro e w' ⟨rfl, rfl⟩)
          | (go_at_call 99; refine (copied_any A2 (cap - p) v (zs.map bv) _ HRD.out (bv_one _) (by omega)).mono ?_; intro e w2 h; obtain ⟨A3, c3', rfl, hr3, hc3, hm3, hb3, _⟩ := h.open; rw [List.length_map, HL.out] at hr3 hc3 ⊢; have HR3 := Lib.hid hr3; have HC3 := Lib.hid hc3; have HM3 := Lib.hid hm3; have HB3 := Lib.hid hb3; clear h hr3 hc3 hm3 hb3))
        go_ret3
        exact ⟨A3, v, c3', rfl, HR3.out, HC3.out, HM3.out, HB3.out⟩
  · have eb : ((er : Int) != 0) = true := by rw [bne_iff_ne]; omega
    have hd2 := HD.out
    rw [if_pos e0] at hd2
    rw [hd2]
    clear HD hd2
    go_enter Try.func102, Try.ntmps102
    go_wp2_with (go_at_call 93; refine HC.out.mono ?_; rintro e w' ⟨rfl, rfl⟩)
    go_ret3
    exact retB3_nil er _
end Go.Proofs.Ythgiafjiemiifaa
