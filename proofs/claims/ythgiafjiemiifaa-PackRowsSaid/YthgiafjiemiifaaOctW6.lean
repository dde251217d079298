/-
  The walks that read, for every place: Number, Int, Bytes.
-/
import Derived.Test.YthgiafjiemiifaaOctW5
namespace Go.Proofs.Ythgiafjiemiifaa
open Go.RowKit OctMath
set_option linter.unusedVariables false
theorem number_any (A : Option Addr) (cap n : Nat) (at_ : Int) (bs : List Nat) (w : World) (hb : Byt bs) (hn : bs.length = n) (hr : Reads w w.heap.size 1 A n (bs.map bv)) (hc : n ≤ cap) (hm : cap ≤ maxLen) :
    Calls Try.prog 91 #[.slice A n cap, .int .i64 at_] w fun e w' => e = .returned (.tuple #[.int .u64 (rdN bs at_).1, .int .i64 (rdN bs at_).2.1, .int .i64 (rdN bs at_).2.2]) ∧ w = w' := by
  by_cases h : at_ < 0 ∨ (n : Int) < at_
  · have e : rdN bs at_ = (0, 0, 2) := by unfold rdN; rw [hn, if_pos h]
    rw [e]
    exact number_out A cap n at_ w h (by unfold maxLen at *; omega)
  · obtain ⟨k, rfl⟩ := Int.eq_ofNat_of_zero_le (show 0 ≤ at_ by omega)
    exact number_in A cap n k bs w hb hn hr (by omega) hc hm
theorem unz_even (n : Nat) (h : n < 18446744073709551616) (h2 : n % 2 = 0) : bits .xor .i64 ((n : Int) / 2) 0 = unz n := by
  have := xor_i64 (n / 2) 0 (by omega) (by omega)
  rw [Nat.xor_zero] at this
  unfold unz; rw [if_pos h2]; exact this
theorem unz_odd (n : Nat) (h : n < 18446744073709551616) (h2 : ¬ n % 2 = 0) : bits .xor .i64 ((n : Int) / 2) (-1) = unz n := by
  unfold unz; rw [if_neg h2]
  have e0 : ((n / 2 : Nat) : Int) = (n : Int) / 2 := by omega
  rw [← e0]
  obtain ⟨m, hm⟩ : ∃ m, n / 2 = m := ⟨_, rfl⟩
  have hm2 : m < 9223372036854775808 := by omega
  rw [hm]
  have e1 : (BitVec.ofInt 64 (-1)).toNat = 18446744073709551615 := by decide
  show IntKind.i64.wrap ((BitVec.ofInt 64 (m : Int) ^^^ BitVec.ofInt 64 (-1)).toNat : Int) = _
  rw [BitVec.toNat_xor, ofInt_i64 m (by omega), e1, xor_ones m (by omega), IntKind.wrap_i64]
  omega
theorem and1_u64 (n : Nat) (h : n < 18446744073709551616) : bits .and .u64 (n : Int) 1 = ((n % 2 : Nat) : Int) := by
  have := u64_and_nat n 1 h (by omega)
  rw [Nat.and_one_is_mod] at this
  exact this
set_option maxRecDepth 100000 in
set_option maxHeartbeats 1000000 in
theorem int_any (A : Option Addr) (cap n : Nat) (at_ : Int) (bs : List Nat) (w : World) (hb : Byt bs) (hn : bs.length = n) (hr : Reads w w.heap.size 1 A n (bs.map bv)) (hc : n ≤ cap) (hm : cap ≤ maxLen) :
    Calls Try.prog 87 #[.slice A n cap, .int .i64 at_] w fun e w' => e = .returned (.tuple #[.int .i64 (unz (rdN bs at_).1), .int .i64 (rdN bs at_).2.1, .int .i64 (rdN bs at_).2.2]) ∧ w = w' := by
  obtain ⟨h1, h2, h3⟩ := rdN_lt bs at_ hb
  have HC := Lib.hid (number_any A cap n at_ bs w hb hn hr hc hm)
  obtain ⟨v, hv⟩ : ∃ v, (rdN bs at_).1 = v := ⟨_, rfl⟩
  obtain ⟨p, hp⟩ : ∃ p, (rdN bs at_).2.1 = p := ⟨_, rfl⟩
  obtain ⟨er, he⟩ : ∃ er, (rdN bs at_).2.2 = er := ⟨_, rfl⟩
  rw [hv, hp, he] at HC
  rw [hv] at h1
  rw [hv, hp, he]
  clear hv hp he h2 h3 hr
  have a1 := and1_u64 v h1
  by_cases ho : v % 2 = 0
  · have a2 := unz_even v h1 ho
    rw [ho] at a1
    have H := Lib.hid ho
    clear ho
    go_enter Try.func87, Try.ntmps87
    go_wp2_with (go_at_call 91; refine HC.out.mono ?_; rintro e w' ⟨rfl, rfl⟩)
    go_ret3
    exact ⟨rfl, rfl⟩
  · have a2 := unz_odd v h1 ho
    rw [show v % 2 = 1 from by omega] at a1
    have H := Lib.hid ho
    clear ho
    go_enter Try.func87, Try.ntmps87
    go_wp2_with (go_at_call 91; refine HC.out.mono ?_; rintro e w' ⟨rfl, rfl⟩)
    go_ret3
    exact ⟨rfl, rfl⟩
/-- What Bytes answers: a fresh slice (or nil), the place, the error. -/
def RetB3 (r : List Nat × Int × Nat) (w : World) (e : Ending) (w' : World) : Prop :=
  ∃ (A : Option Addr) (n cap : Nat), e = .returned (.tuple #[.slice A n cap, .int .i64 r.2.1, .int .i64 r.2.2]) ∧ Reads w' w'.heap.size 1 A n (r.1.map bv) ∧ n ≤ cap ∧ cap ≤ maxLen ∧ Below w.heap.size w w'
theorem retB3_nil (er : Nat) (w : World) : RetB3 ([], 0, er) w (.returned (.tuple #[.slice none 0 0, .int .i64 0, .int .i64 er])) w :=
  ⟨none, 0, 0, rfl, Reads.none_, Nat.le_refl _, by unfold maxLen; omega, Below.refl _ _⟩
set_option maxRecDepth 100000 in
set_option maxHeartbeats 1000000 in
theorem bytes_any (A : Option Addr) (cap n : Nat) (at_ most : Int) (bs : List Nat) (w : World) (hb : Byt bs) (hn : bs.length = n) (hr : Reads w w.heap.size 1 A n (bs.map bv)) (hc : n ≤ cap) (hm : cap ≤ maxLen) (hn2 : n ≤ 140737488351232) (hmo : most ≤ 9223372036854775807) :
    Calls Try.prog 94 #[.slice A n cap, .int .i64 at_, .int .i64 most] w (RetB3 (rdB bs at_ most) w) := by
  obtain ⟨h1, h2, h3⟩ := rdN_lt bs at_ hb
  have HC := Lib.hid (number_any A cap n at_ bs w hb hn hr hc hm)
  have hdef : rdB bs at_ most = (if (rdN bs at_).2.2 ≠ 0 then ([], 0, (rdN bs at_).2.2)
      else if most < 0 ∨ most < (rdN bs at_).1 ∨ (bs.length : Int) - (rdN bs at_).2.1 < (rdN bs at_).1 then ([], 0, 40)
      else ((bs.drop (rdN bs at_).2.1.toNat).take (rdN bs at_).1, (rdN bs at_).2.1 + (rdN bs at_).1, 0)) := rfl
  obtain ⟨v, hv⟩ : ∃ v, (rdN bs at_).1 = v := ⟨_, rfl⟩
  obtain ⟨p0, hp⟩ : ∃ p, (rdN bs at_).2.1 = p := ⟨_, rfl⟩
  obtain ⟨er, he⟩ : ∃ er, (rdN bs at_).2.2 = er := ⟨_, rfl⟩
  rw [hv, hp, he] at HC hdef
  rw [hv] at h1
  rw [hp] at h2 h3
  obtain ⟨p, rfl⟩ := Int.eq_ofNat_of_zero_le h2
  rw [hn] at h3 hdef
  have HR := Lib.hid hr
  have HD := Lib.hid hdef
  clear hv hp he hr hdef
  by_cases e0 : er = 0
  · have eb : ((er : Int) != 0) = false := by rw [e0]; rfl
    have hd2 := HD.out
    rw [if_neg (by simp [e0])] at hd2
    by_cases hbad : most < 0 ∨ most < v ∨ (n : Int) - p < v
    · rw [if_pos hbad] at hd2
      rw [hd2]
      have E0 := Lib.hid e0
      clear HD hd2 e0
      by_cases c1 : most < 0
      · clear hbad
        go_enter Try.func94, Try.ntmps94
        go_wp2_with (go_at_call 91; refine HC.out.mono ?_; rintro e w' ⟨rfl, rfl⟩)
        go_ret3
        exact retB3_nil 40 _
      · have c1' : 0 ≤ most := by omega
        by_cases c2 : most < v
        · clear hbad
          go_enter Try.func94, Try.ntmps94
          go_wp2_with (go_at_call 91; refine HC.out.mono ?_; rintro e w' ⟨rfl, rfl⟩)
          go_ret3
          exact retB3_nil 40 _
        · have c3 : (n : Int) - p < v := by omega
          have c4 : (v : Int) ≤ most := by omega
          clear hbad
          go_enter Try.func94, Try.ntmps94
          go_wp2_with (go_at_call 91; refine HC.out.mono ?_; rintro e w' ⟨rfl, rfl⟩)
          go_ret3
          exact retB3_nil 40 _
    · rw [if_neg hbad] at hd2
      rw [hd2]
      have E0 := Lib.hid e0
      clear HD hd2 e0
      have c1 : 0 ≤ most := by omega
      have c2 : (v : Int) ≤ most := by omega
      have c3 : (v : Int) ≤ (n : Int) - p := by omega
      have c4 : p + v ≤ n := by omega
      clear hbad
      obtain ⟨i0, hi, k2, k3, k4⟩ := info_parts Try.infoU8
      have hsl : ∀ W : World, (Instr.sliceAt 22 (.slice A n cap) (some (.int .i64 (p : Int))) (some (.int .i64 ((p : Int) + (v : Int)))) none).run Try.prog W = .ok (.slice (if cap = p then A else A.map (·.add (p * 1))) v (cap - p)) W := fun W => by
        have := slice_both Try.underlying22 hi k3 A n cap p (p + v) (by omega) (by omega) W
        rw [show p + v - p = v from by omega, Int.natCast_add] at this
        exact this
      have hcut := HR.out.cut (k := p) (by omega) hc
      obtain ⟨A2, hA2⟩ : ∃ A2, (if cap = p then A else A.map (·.add (p * 1))) = A2 := ⟨_, rfl⟩
      rw [hA2] at hsl hcut
      rw [Nat.mul_one, ← List.map_drop] at hcut
      have hlen : ((bs.drop p).take v).length = v := by simp [hn]; omega
      have hrd : Reads w w.heap.size 1 A2 v (((bs.drop p).take v).map bv) := by
        refine ⟨by rw [List.length_map, hlen, Nat.mul_one], fun hv0 => ?_⟩
        obtain ⟨ad, ea, hbl, hcells⟩ := hcut.2 (by omega)
        refine ⟨ad, ea, hbl, fun j u hu => hcells j u ?_⟩
        rw [List.map_take] at hu
        have hj : j < v := by
          have := (List.getElem?_eq_some_iff.1 hu).1
          rw [List.length_take] at this; omega
        rw [List.getElem?_take_of_lt hj] at hu
        exact hu
      obtain ⟨zs, hz⟩ : ∃ zs, (bs.drop p).take v = zs := ⟨_, rfl⟩
      rw [hz] at hrd hlen
      rw [show (bs.drop ((p : Int)).toNat).take v = zs from hz]
      have HRD := Lib.hid hrd
      have HL := Lib.hid hlen
      clear hcut hA2 hrd hlen hi k2 k3 k4 hz
      go_enter Try.func94, Try.ntmps94
      go_wp2_with (go_at_call 91; refine HC.out.mono ?_; rintro e w' ⟨rfl, rfl⟩)
      refine (put_any A2 none (cap - p) 0 v 0 (zs.map bv) [] _ HRD.out Reads.none_ (bv_one _) (by simp) (by omega)).mono ?_
      rintro e w2 h
      obtain ⟨A3, c3', rfl, hr3, hc3, hm3, hb3, _⟩ := h.open
      rw [List.append_nil, List.length_map, HL.out] at hr3 hc3 ⊢
      have HR3 := Lib.hid hr3
      have HC3 := Lib.hid hc3
      have HM3 := Lib.hid hm3
      clear h hr3 hc3 hm3
      go_wp2
      go_ret3
      exact ⟨A3, v, c3', rfl, HR3.out, HC3.out, HM3.out, hb3⟩
  · have eb : ((er : Int) != 0) = true := by rw [bne_iff_ne]; omega
    have hd2 := HD.out
    rw [if_pos e0] at hd2
    rw [hd2]
    clear HD hd2
    go_enter Try.func94, Try.ntmps94
    go_wp2_with (go_at_call 91; refine HC.out.mono ?_; rintro e w' ⟨rfl, rfl⟩)
    go_ret3
    exact retB3_nil er _
end Go.Proofs.Ythgiafjiemiifaa
