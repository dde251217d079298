/-
  The walks that read: Number, Int, Bytes; The walks that read, for every place: Number, Int, Bytes; THE PROGRAM'S READER: a page. (joined out of OctW5, OctW6, PaR1 by shake.py)
-/
import Derived.Deep.RegionHeld3
import Derived.Test.YthgiafjiemiifaaGreatPbk02
import Derived.Test.YthgiafjiemiifaaGreatPbk05
section
namespace Go.Proofs.YthgiafjiemiifaaGreat
open Go.RowKit OctMath
set_option linter.unusedVariables false
theorem pow128 (i : Nat) : (2 : Nat) ^ (7 * i) = 128 ^ i := by rw [Nat.pow_mul]
theorem or_add (acc d i : Nat) (h : acc < 128 ^ i) : acc ||| d * 128 ^ i = acc + d * 128 ^ i := by
  rw [← pow128] at h ⊢
  have := Nat.two_pow_add_eq_or_of_lt h d
  rw [Nat.or_comm, Nat.mul_comm d, ← this, Nat.add_comm]
theorem num_step (i acc d : Nat) (hi : i ≤ 9) (hacc : acc < 128 ^ i) (hd : d < 128) (h9 : i = 9 → d ≤ 1) :
    IntKind.u64.wrap ((d : Int) * 2 ^ (7 * i)) = ((d * 128 ^ i : Nat) : Int) ∧ bits .or .u64 (acc : Int) ((d * 128 ^ i : Nat) : Int) = ((acc + d * 128 ^ i : Nat) : Int) ∧ acc + d * 128 ^ i < 128 ^ (i + 1) ∧ d * 128 ^ i < 18446744073709551616 := by
  have hb : acc + d * 128 ^ i < 18446744073709551616 := by
    rcases Nat.lt_or_ge i 9 with h | h
    · have h1 : 128 ^ i ≤ 128 ^ 8 := Nat.pow_le_pow_right (by omega) (by omega)
      have h2 : d * 128 ^ i ≤ 127 * 128 ^ 8 := Nat.mul_le_mul (by omega) h1
      have h3 : (127 : Nat) * 128 ^ 8 = 9151314442816847872 := by decide
      have h4 : (128 : Nat) ^ 8 = 72057594037927936 := by decide
      omega
    · obtain rfl : i = 9 := by omega
      have h1 : d ≤ 1 := h9 rfl
      have h4 : (128 : Nat) ^ 9 = 9223372036854775808 := by decide
      have h2 : d * 128 ^ 9 ≤ 1 * 128 ^ 9 := Nat.mul_le_mul_right _ h1
      omega
  have hs : d * 128 ^ i < 18446744073709551616 := by omega
  have e1 : (d : Int) * 2 ^ (7 * i) = ((d * 128 ^ i : Nat) : Int) := by rw [← pow128, Int.natCast_mul, Int.natCast_pow]; rfl
  refine ⟨?_, ?_, ?_, hs⟩
  · rw [e1]; exact IntWalk.u64_in _ (by omega)
  · rw [u64_or_nat acc (d * 128 ^ i) (by omega) hs, or_add acc d i hacc]
  · rw [Nat.pow_succ]
    have : d * 128 ^ i ≤ 127 * 128 ^ i := Nat.mul_le_mul_right _ (by omega)
    omega
theorem and127_8 (c : Nat) (h : c < 256) : bits .and .u8 (c : Int) 127 = ((c % 128 : Nat) : Int) := by
  have h1 := u8_and_nat c 127 h (by omega)
  rw [show c &&& 127 = c % 128 from Nat.and_two_pow_sub_one_eq_mod c 7] at h1
  exact h1
theorem ret3_nat' {n : Nat} {p p' : Int} {m : Int} {e : Int} (h1 : m = (n : Int)) (h2 : p = p') :
    Ending.returned (.tuple #[.int .u64 m, .int .i64 p, .int .i64 e]) = .returned (.tuple #[.int .u64 (n : Int), .int .i64 p', .int .i64 e]) := by rw [h1, h2]
set_option maxRecDepth 100000 in
set_option maxHeartbeats 1000000 in
theorem number_out (A : Option Addr) (cap n : Nat) (at_ : Int) (w : World) (h : at_ < 0 ∨ (n : Int) < at_) (hm : n ≤ maxLen) :
    Calls Tryz.prog 92 #[.slice A n cap, .int .i64 at_] w fun e w' => e = .returned (.tuple #[.int .u64 0, .int .i64 0, .int .i64 2]) ∧ w = w' := by
  unfold maxLen at hm
  by_cases h0 : at_ < 0
  · go_enter Tryz.func92, Tryz.ntmps92
    go_wp2
    go_ret3
    exact ⟨rfl, rfl⟩
  · have h1 : (n : Int) < at_ := by omega
    clear h
    go_enter Tryz.func92, Tryz.ntmps92
    go_wp2
    go_ret3
    exact ⟨rfl, rfl⟩
set_option maxRecDepth 100000 in
set_option maxHeartbeats 1000000 in
theorem number_in (A : Option Addr) (cap n k : Nat) (bs : List Nat) (w : World) (hb : Byt bs) (hn : bs.length = n) (hr : Reads w w.heap.size 1 A n (bs.map bv)) (hk : k ≤ n) (hc : n ≤ cap) (hm : cap ≤ maxLen) :
    Calls Tryz.prog 92 #[.slice A n cap, .int .i64 k] w fun e w' => e = .returned (.tuple #[.int .u64 (rdN bs k).1, .int .i64 (rdN bs k).2.1, .int .i64 (rdN bs k).2.2]) ∧ w = w' := by
  unfold maxLen at hm
  obtain ⟨i0, hi, h2, h3, h4⟩ := info_parts Tryz.infoU8
  have hsl := slice_from Tryz.underlying22 hi h3 A n cap k hk hc
  have hcut := hr.cut hk hc
  rw [← List.map_drop, Nat.mul_one] at hcut
  rw [Nat.mul_one] at hsl
  obtain ⟨A2, hA2⟩ : ∃ A2, (if cap = k then A else A.map (·.add k)) = A2 := ⟨_, rfl⟩
  rw [hA2] at hsl hcut
  have hds : Byt (bs.drop k) := hb.drop k
  have hdl : (bs.drop k).length = n - k := by simp [hn]
  obtain ⟨ds, hdd⟩ : ∃ ds, bs.drop k = ds := ⟨_, rfl⟩
  have hrd : rdN bs k = (let r := rdF ds 0 0; if r.2.2 = 0 then (r.1, (k : Int) + r.2.1, 0) else (0, 0, r.2.2)) := by
    unfold rdN
    rw [if_neg (by omega), show ((k : Int)).toNat = k from by omega, hdd]
  rw [hdd] at hcut hds hdl
  have RD := Lib.hid hrd
  have hkb : decide ((k : Int) < 0) = false := by simp
  obtain ⟨L, hL⟩ : ∃ L, n - k = L := ⟨_, rfl⟩
  rw [hL] at hsl hdl hcut
  have HR := Lib.hid hcut
  have hLm : L ≤ 9223372036854775807 := by omega
  have hpL : k + L ≤ 9223372036854775807 := by omega
  have hk2 : (k : Int) ≤ n := by omega
  clear hr hcut hrd hA2 hdd hb hn hi h2 h3 h4 hL
  go_enter Tryz.func92, Tryz.ntmps92
  go_wp2
  go_loop [7, 22] (fun vn vi => ∃ i acc : Nat, i ≤ L ∧ i ≤ 9 ∧ acc < 128 ^ i ∧ vi = .int .i64 i ∧ vn = .int .u64 acc ∧ rdF (ds.drop i) i acc = rdF ds 0 0) (fun _ vi => L - (intOf vi).toNat)
  case atStart => exact ⟨0, 0, by omega, by omega, by decide, rfl, rfl, rfl⟩
  case round =>
    obtain ⟨i, acc, hi, hi9, hacc, rfl, rfl, hrel⟩ := hrel
    by_cases hlt : i < L
    · obtain ⟨ad, rfl, hbl, hcell⟩ := HR.out.byteD hlt
      have hcb := hds.getD i
      have hdrop : ds.drop i = ds.getD i 0 :: ds.drop (i + 1) := by
        rw [List.drop_eq_getElem_cons (by omega), List.getD_eq_getElem?_getD, List.getElem?_eq_getElem (by omega)]; rfl
      obtain ⟨c, hc0⟩ : ∃ c, ds.getD i 0 = c := ⟨_, rfl⟩
      rw [hc0] at hcell hcb hdrop
      rw [hdrop, rdF] at hrel
      have H := Lib.hid hrel
      clear hrel hdrop hc0
      by_cases hbad : (i = 9 ∧ 1 < c) ∨ (0 < i ∧ c = 0)
      · have hr := H.out
        rw [if_pos hbad] at hr
        have R1 := Lib.hid hr
        have hres : rdN bs k = (0, 0, 41) := by rw [RD.out, ← R1.out]; rfl
        have HS := Lib.hid hres
        clear hr hres
        by_cases hc0 : c = 0
        · have hi0 : 0 < i := by omega
          have hcz : ((c : Int) == 0) = true := by simpa using hc0
          have hc1 : (c : Int) ≤ 1 := by omega
          clear hbad H
          have HC := Lib.hid hc0
          clear hc0
          rcases hb9 : ((i : Int) == 9) with _ | _
          all_goals
            go_wp2
            go_ret3
            exact ⟨by rw [HS.out]; rfl, rfl⟩
        · have hi9' : i = 9 := by omega
          have hb9 : ((i : Int) == 9) = true := by rw [hi9']; rfl
          have hc1 : 1 < c := by omega
          have HI := Lib.hid hi9'
          clear hbad H hi9'
          go_wp2
          go_ret3
          exact ⟨by rw [HS.out]; rfl, rfl⟩
      · have hr := H.out
        rw [if_neg hbad] at hr
        have a1 := and127_8 c hcb
        have hd : c % 128 < 128 := by omega
        have h91 : i = 9 → c % 128 ≤ 1 := by omega
        have h99 : 128 ≤ c → i < 9 := by omega
        obtain ⟨d, ed⟩ : ∃ d, c % 128 = d := ⟨_, rfl⟩
        rw [ed] at a1 hd h91 hr
        obtain ⟨n1, n2, n3, n4⟩ := num_step i acc d hi9 hacc hd h91
        obtain ⟨s, es⟩ : ∃ s, d * 128 ^ i = s := ⟨_, rfl⟩
        rw [es] at n1 n2 n3 n4 hr
        have HR1 := Lib.hid hr
        have N3 := Lib.hid n3
        have hsum : 0 ≤ (i : Int) + 1 := by omega
        clear hr es ed n3 H h91 hacc
        by_cases hlo : c < 128
        · have hr2 := HR1.out
          rw [if_pos hlo] at hr2
          have hres : rdN bs k = (acc + s, (k : Int) + ((i + 1 : Nat) : Int), 0) := by rw [RD.out, ← hr2]; rfl
          have HS := Lib.hid hres
          have hfin : ∀ x : Nat, ((acc + s : Nat) : Int) = x → True := fun _ _ => trivial
          clear hr2 hres hfin HR1
          by_cases h0 : i = 0
          · have i1 : ((i : Int) == 9) = false := by rw [h0]; rfl
            have i2 : ¬ 0 < i := by omega
            have H0 := Lib.hid h0
            clear h0 hbad
            go_wp2
            go_ret3
            exact ⟨by rw [HS.out]; exact ret3_nat' rfl (by show _ = (k : Int) + ((i + 1 : Nat) : Int); omega), rfl⟩
          · have i2 : 0 < i := by omega
            have hcz : ((c : Int) == 0) = false := by rw [beq_eq_false_iff_ne]; omega
            rcases hb9 : ((i : Int) == 9) with _ | _
            · clear hbad
              go_wp2
              go_ret3
              exact ⟨by rw [HS.out]; exact ret3_nat' rfl (by show _ = (k : Int) + ((i + 1 : Nat) : Int); omega), rfl⟩
            · have hc1 : c ≤ 1 := by
                have : i = 9 := by have := eq_of_beq hb9; omega
                omega
              clear hbad
              go_wp2
              go_ret3
              exact ⟨by rw [HS.out]; exact ret3_nat' rfl (by show _ = (k : Int) + ((i + 1 : Nat) : Int); omega), rfl⟩
        · have hr2 := HR1.out
          rw [if_neg hlo] at hr2
          have HS := Lib.hid hr2
          have hi8 : i < 9 := h99 (by omega)
          have i1 : ((i : Int) == 9) = false := by rw [beq_eq_false_iff_ne]; omega
          have hcz : ((c : Int) == 0) = false := by rw [beq_eq_false_iff_ne]; omega
          clear hr2 HR1 h99 hbad
          by_cases h0 : 0 < i
          · go_wp2
            exact ⟨⟨i + 1, acc + s, by omega, by omega, N3.out, by go_num, rfl, HS.out⟩, by simp [intOf]; omega⟩
          · go_wp2
            exact ⟨⟨i + 1, acc + s, by omega, by omega, N3.out, by go_num, rfl, HS.out⟩, by simp [intOf]; omega⟩
    · obtain rfl : i = L := by omega
      rw [List.drop_of_length_le (by omega), rdF] at hrel
      have hres : rdN bs k = (0, 0, 40) := by rw [RD.out, ← hrel]; rfl
      have HS := Lib.hid hres
      clear hres hrel
      go_wp2
      go_ret3
      exact ⟨by rw [HS.out]; rfl, rfl⟩
end Go.Proofs.YthgiafjiemiifaaGreat
end
section
namespace Go.Proofs.YthgiafjiemiifaaGreat
open Go.RowKit OctMath
set_option linter.unusedVariables false
theorem number_any (A : Option Addr) (cap n : Nat) (at_ : Int) (bs : List Nat) (w : World) (hb : Byt bs) (hn : bs.length = n) (hr : Reads w w.heap.size 1 A n (bs.map bv)) (hc : n ≤ cap) (hm : cap ≤ maxLen) :
    Calls Tryz.prog 92 #[.slice A n cap, .int .i64 at_] w fun e w' => e = .returned (.tuple #[.int .u64 (rdN bs at_).1, .int .i64 (rdN bs at_).2.1, .int .i64 (rdN bs at_).2.2]) ∧ w = w' := by
  by_cases h : at_ < 0 ∨ (n : Int) < at_
  · have e : rdN bs at_ = (0, 0, 2) := by unfold rdN; rw [hn, if_pos h]
    rw [e]
    exact number_out A cap n at_ w h (by unfold maxLen at *; omega)
  · obtain ⟨k, rfl⟩ := Int.eq_ofNat_of_zero_le (show 0 ≤ at_ by omega)
    exact number_in A cap n k bs w hb hn hr (by omega) hc hm
theorem unz_even (n : Nat) (h : n < 18446744073709551616) (h2 : n % 2 = 0) : bits .xor .i64 ((n : Int) / 2) 0 = unz n := by
  have := xor_i64 (n / 2) 0 (by omega) (by omega)
  rw [Nat.xor_zero] at this
  unfold unz; rw [if_pos h2]; exact this
theorem unz_odd (n : Nat) (h : n < 18446744073709551616) (h2 : ¬ n % 2 = 0) : bits .xor .i64 ((n : Int) / 2) (-1) = unz n := by
  unfold unz; rw [if_neg h2]
  have e0 : ((n / 2 : Nat) : Int) = (n : Int) / 2 := by omega
  rw [← e0]
  obtain ⟨m, hm⟩ : ∃ m, n / 2 = m := ⟨_, rfl⟩
  have hm2 : m < 9223372036854775808 := by omega
  rw [hm]
  have e1 : (BitVec.ofInt 64 (-1)).toNat = 18446744073709551615 := by decide
  show IntKind.i64.wrap ((BitVec.ofInt 64 (m : Int) ^^^ BitVec.ofInt 64 (-1)).toNat : Int) = _
  rw [BitVec.toNat_xor, ofInt_i64 m (by omega), e1, xor_ones m (by omega), IntKind.wrap_i64]
  omega
theorem and1_u64 (n : Nat) (h : n < 18446744073709551616) : bits .and .u64 (n : Int) 1 = ((n % 2 : Nat) : Int) := by
  have := u64_and_nat n 1 h (by omega)
  rw [Nat.and_one_is_mod] at this
  exact this
set_option maxRecDepth 100000 in
set_option maxHeartbeats 1000000 in
theorem int_any (A : Option Addr) (cap n : Nat) (at_ : Int) (bs : List Nat) (w : World) (hb : Byt bs) (hn : bs.length = n) (hr : Reads w w.heap.size 1 A n (bs.map bv)) (hc : n ≤ cap) (hm : cap ≤ maxLen) :
    Calls Tryz.prog 94 #[.slice A n cap, .int .i64 at_] w fun e w' => e = .returned (.tuple #[.int .i64 (unz (rdN bs at_).1), .int .i64 (rdN bs at_).2.1, .int .i64 (rdN bs at_).2.2]) ∧ w = w' := by
  obtain ⟨h1, h2, h3⟩ := rdN_lt bs at_ hb
  have HC := Lib.hid (number_any A cap n at_ bs w hb hn hr hc hm)
  obtain ⟨v, hv⟩ : ∃ v, (rdN bs at_).1 = v := ⟨_, rfl⟩
  obtain ⟨p, hp⟩ : ∃ p, (rdN bs at_).2.1 = p := ⟨_, rfl⟩
  obtain ⟨er, he⟩ : ∃ er, (rdN bs at_).2.2 = er := ⟨_, rfl⟩
  rw [hv, hp, he] at HC
  rw [hv] at h1
  rw [hv, hp, he]
  clear hv hp he h2 h3 hr
  have a1 := and1_u64 v h1
  by_cases ho : v % 2 = 0
  · have a2 := unz_even v h1 ho
    rw [ho] at a1
    have H := Lib.hid ho
    clear ho
    go_enter Tryz.func94, Tryz.ntmps94
    go_wp2_with (go_at_call 92; refine HC.out.mono ?_; rintro e w' ⟨rfl, rfl⟩)
    go_ret3
    exact ⟨rfl, rfl⟩
  · have a2 := unz_odd v h1 ho
    rw [show v % 2 = 1 from by omega] at a1
    have H := Lib.hid ho
    clear ho
    go_enter Tryz.func94, Tryz.ntmps94
    go_wp2_with (go_at_call 92; refine HC.out.mono ?_; rintro e w' ⟨rfl, rfl⟩)
    go_ret3
    exact ⟨rfl, rfl⟩
/-- What Bytes answers: a fresh slice (or nil), the place, the error. -/
def RetB3 (r : List Nat × Int × Nat) (w : World) (e : Ending) (w' : World) : Prop :=
  ∃ (A : Option Addr) (n cap : Nat), e = .returned (.tuple #[.slice A n cap, .int .i64 r.2.1, .int .i64 r.2.2]) ∧ Reads w' w'.heap.size 1 A n (r.1.map bv) ∧ n ≤ cap ∧ cap ≤ maxLen ∧ Below w.heap.size w w'
theorem retB3_nil (er : Nat) (w : World) : RetB3 ([], 0, er) w (.returned (.tuple #[.slice none 0 0, .int .i64 0, .int .i64 er])) w :=
  ⟨none, 0, 0, rfl, Reads.none_, Nat.le_refl _, by unfold maxLen; omega, Below.refl _ _⟩
set_option maxRecDepth 100000 in
set_option maxHeartbeats 1000000 in
theorem bytes_any (A : Option Addr) (cap n : Nat) (at_ most : Int) (bs : List Nat) (w : World) (hb : Byt bs) (hn : bs.length = n) (hr : Reads w w.heap.size 1 A n (bs.map bv)) (hc : n ≤ cap) (hm : cap ≤ maxLen) (hn2 : n ≤ 140737488351232) (hmo : most ≤ 9223372036854775807) :
    Calls Tryz.prog 110 #[.slice A n cap, .int .i64 at_, .int .i64 most] w (RetB3 (rdB bs at_ most) w) := by
  obtain ⟨h1, h2, h3⟩ := rdN_lt bs at_ hb
  have HC := Lib.hid (number_any A cap n at_ bs w hb hn hr hc hm)
  have hdef : rdB bs at_ most = (if (rdN bs at_).2.2 ≠ 0 then ([], 0, (rdN bs at_).2.2)
      else if most < 0 ∨ most < (rdN bs at_).1 ∨ (bs.length : Int) - (rdN bs at_).2.1 < (rdN bs at_).1 then ([], 0, 40)
      else ((bs.drop (rdN bs at_).2.1.toNat).take (rdN bs at_).1, (rdN bs at_).2.1 + (rdN bs at_).1, 0)) := rfl
  obtain ⟨v, hv⟩ : ∃ v, (rdN bs at_).1 = v := ⟨_, rfl⟩
  obtain ⟨p0, hp⟩ : ∃ p, (rdN bs at_).2.1 = p := ⟨_, rfl⟩
  obtain ⟨er, he⟩ : ∃ er, (rdN bs at_).2.2 = er := ⟨_, rfl⟩
  rw [hv, hp, he] at HC hdef
  rw [hv] at h1
  rw [hp] at h2 h3
  obtain ⟨p, rfl⟩ := Int.eq_ofNat_of_zero_le h2
  rw [hn] at h3 hdef
  have HR := Lib.hid hr
  have HD := Lib.hid hdef
  clear hv hp he hr hdef
  by_cases e0 : er = 0
  · have eb : ((er : Int) != 0) = false := by rw [e0]; rfl
    have hd2 := HD.out
    rw [if_neg (by simp [e0])] at hd2
    by_cases hbad : most < 0 ∨ most < v ∨ (n : Int) - p < v
    · rw [if_pos hbad] at hd2
      rw [hd2]
      have E0 := Lib.hid e0
      clear HD hd2 e0
      by_cases c1 : most < 0
      · clear hbad
        go_enter Tryz.func110, Tryz.ntmps110
        go_wp2_with (go_at_call 92; refine HC.out.mono ?_; rintro e w' ⟨rfl, rfl⟩)
        go_ret3
        exact retB3_nil 40 _
      · have c1' : 0 ≤ most := by omega
        by_cases c2 : most < v
        · clear hbad
          go_enter Tryz.func110, Tryz.ntmps110
          go_wp2_with (go_at_call 92; refine HC.out.mono ?_; rintro e w' ⟨rfl, rfl⟩)
          go_ret3
          exact retB3_nil 40 _
        · have c3 : (n : Int) - p < v := by omega
          have c4 : (v : Int) ≤ most := by omega
          clear hbad
          go_enter Tryz.func110, Tryz.ntmps110
          go_wp2_with (go_at_call 92; refine HC.out.mono ?_; rintro e w' ⟨rfl, rfl⟩)
          go_ret3
          exact retB3_nil 40 _
    · rw [if_neg hbad] at hd2
      rw [hd2]
      have E0 := Lib.hid e0
      clear HD hd2 e0
      have c1 : 0 ≤ most := by omega
      have c2 : (v : Int) ≤ most := by omega
      have c3 : (v : Int) ≤ (n : Int) - p := by omega
      have c4 : p + v ≤ n := by omega
      clear hbad
      obtain ⟨i0, hi, k2, k3, k4⟩ := info_parts Tryz.infoU8
      have hsl : ∀ W : World, (Instr.sliceAt 22 (.slice A n cap) (some (.int .i64 (p : Int))) (some (.int .i64 ((p : Int) + (v : Int)))) none).run Tryz.prog W = .ok (.slice (if cap = p then A else A.map (·.add (p * 1))) v (cap - p)) W := fun W => by
        have := slice_both Tryz.underlying22 hi k3 A n cap p (p + v) (by omega) (by omega) W
        rw [show p + v - p = v from by omega, Int.natCast_add] at this
        exact this
      have hcut := HR.out.cut (k := p) (by omega) hc
      obtain ⟨A2, hA2⟩ : ∃ A2, (if cap = p then A else A.map (·.add (p * 1))) = A2 := ⟨_, rfl⟩
      rw [hA2] at hsl hcut
      rw [Nat.mul_one, ← List.map_drop] at hcut
      have hlen : ((bs.drop p).take v).length = v := by simp [hn]; omega
      have hrd : Reads w w.heap.size 1 A2 v (((bs.drop p).take v).map bv) := by
        refine ⟨by rw [List.length_map, hlen, Nat.mul_one], fun hv0 => ?_⟩
        obtain ⟨ad, ea, hbl, hcells⟩ := hcut.2 (by omega)
        refine ⟨ad, ea, hbl, fun j u hu => hcells j u ?_⟩
        rw [List.map_take] at hu
        have hj : j < v := by
          have := (List.getElem?_eq_some_iff.1 hu).1
          rw [List.length_take] at this; omega
        rw [List.getElem?_take_of_lt hj] at hu
        exact hu
      obtain ⟨zs, hz⟩ : ∃ zs, (bs.drop p).take v = zs := ⟨_, rfl⟩
      rw [hz] at hrd hlen
      rw [show (bs.drop ((p : Int)).toNat).take v = zs from hz]
      have HRD := Lib.hid hrd
      have HL := Lib.hid hlen
      clear hcut hA2 hrd hlen hi k2 k3 k4 hz
      go_enter Tryz.func110, Tryz.ntmps110
      go_wp2_with (go_at_call 92; refine HC.out.mono ?_; rintro e w' ⟨rfl, rfl⟩)
      refine (put_any A2 none (cap - p) 0 v 0 (zs.map bv) [] _ HRD.out Reads.none_ (bv_one _) (by simp) (by omega)).mono ?_
      rintro e w2 h
      obtain ⟨A3, c3', rfl, hr3, hc3, hm3, hb3, _⟩ := h.open
      rw [List.append_nil, List.length_map, HL.out] at hr3 hc3 ⊢
      have HR3 := Lib.hid hr3
      have HC3 := Lib.hid hc3
      have HM3 := Lib.hid hm3
      clear h hr3 hc3 hm3
      go_wp2
      go_ret3
      exact ⟨A3, v, c3', rfl, HR3.out, HC3.out, HM3.out, hb3⟩
  · have eb : ((er : Int) != 0) = true := by rw [bne_iff_ne]; omega
    have hd2 := HD.out
    rw [if_pos e0] at hd2
    rw [hd2]
    clear HD hd2
    go_enter Tryz.func110, Tryz.ntmps110
    go_wp2_with (go_at_call 92; refine HC.out.mono ?_; rintro e w' ⟨rfl, rfl⟩)
    go_ret3
    exact retB3_nil er _
end Go.Proofs.YthgiafjiemiifaaGreat
end
section
namespace Go.Proofs.YthgiafjiemiifaaGreat
open Go.RowKit OctMath
set_option linter.unusedVariables false
/-- The panic of bytes that are no such thing. -/
def badP : List PanicEntry := [{ v := .iface 105 (.agg #[]), recovered := false }]
set_option maxRecDepth 100000 in
theorem took_ok (g p : Nat) (A : Option Addr) (n cap a : Nat) (w : World) (hB : Hid (Blk w g 107 #[.slice A n cap, .int .i64 (a : Int)])) :
    Calls Tryz.prog 93 #[.pointer (some ⟨g, 0, none⟩), .int .i64 (p : Int), .int .i64 0] w fun e w' => e = .returned (.tuple #[]) ∧ w' = w.setCell ⟨g, 1, none⟩ (.int .i64 (p : Int)) := by
  have c1 := hB.out.cell 1
  have f1 := hB.out.frozen 1
  go_enter Tryz.func93, Tryz.ntmps93
  go_wp2
  go_end0
  exact ⟨rfl, rfl⟩
set_option maxRecDepth 100000 in
theorem took_bad (g : Nat) (p er : Int) (w : World) (he : er ≠ 0) :
    Calls Tryz.prog 93 #[.pointer (some ⟨g, 0, none⟩), .int .i64 p, .int .i64 er] w fun e w' => e = .panicked badP ∧ w' = w := by
  have h0 : (er != 0) = true := by rw [bne_iff_ne]; exact he
  go_enter Tryz.func93, Tryz.ntmps93
  go_wp2
  exact ⟨rfl, rfl, rfl⟩
/-- All blocks but g. -/
def Not (g : Nat) : Nat → Prop := fun k => k ≠ g
/-- A page: its bytes, and how far it was read. -/
structure PG (g : Nat) (A : Option Addr) (n cap : Nat) (bs : List Nat) (p : Nat) (w : World) : Prop where
  blk : Blk w g 107 #[.slice A n cap, .int .i64 (p : Int)]
  rd : Reads w w.heap.size 1 A n (bs.map bv)
  ne : 0 < n → ∀ ad, A = some ad → Not g ad.block
  byt : Byt bs
  len : bs.length = n
  le : n ≤ cap
  mx : cap ≤ maxLen
  reach : n ≤ 140737488351232
  pl : p ≤ n
theorem PG.turn {g : Nat} {A : Option Addr} {n cap p q : Nat} {bs : List Nat} {w w' : World} (h : PG g A n cap bs p w) (k : Keep (Not g) w w') (hB : Blk w' g 107 #[.slice A n cap, .int .i64 (q : Int)]) (hq : q ≤ n) : PG g A n cap bs q w' :=
  ⟨hB, k.reads h.rd h.ne, h.ne, h.byt, h.len, h.le, h.mx, h.reach, hq⟩
theorem PG.drew {g : Nat} {A : Option Addr} {n cap p : Nat} {bs : List Nat} {w : World} (h : PG g A n cap bs p w) : PG g A n cap bs p w.drew := ⟨h.blk, h.rd, h.ne, h.byt, h.len, h.le, h.mx, h.reach, h.pl⟩
theorem keep_drew {H : Nat → Prop} {w : World} : Keep H w w.drew := ⟨rfl, rfl, rfl, Nat.le_refl _, fun _ _ _ => rfl⟩
/-- What a reader of a page does. -/
def RetR {α : Type} (r : Option (α × Nat)) (val : α → World → Value → Prop) (g : Nat) (A : Option Addr) (n cap : Nat) (bs : List Nat) (w : World) (e : Ending) (w' : World) : Prop := match r with
  | some (x, q) => ∃ v, e = .returned v ∧ val x w' v ∧ PG g A n cap bs q w' ∧ Keep (Not g) w w'
  | none => e = .panicked badP ∧ Keep (Not g) w w'
theorem RetR.some_ {α : Type} {x : α} {q : Nat} {val : α → World → Value → Prop} {g : Nat} {A : Option Addr} {n cap : Nat} {bs : List Nat} {w w' : World} {v : Value} (h1 : val x w' v) (h2 : PG g A n cap bs q w') (h3 : Keep (Not g) w w') : RetR (some (x, q)) val g A n cap bs w (.returned v) w' := ⟨v, rfl, h1, h2, h3⟩
theorem RetR.none_ {α : Type} {val : α → World → Value → Prop} {g : Nat} {A : Option Addr} {n cap : Nat} {bs : List Nat} {w w' : World} (h3 : Keep (Not g) w w') : RetR (none : Option (α × Nat)) val g A n cap bs w (.panicked badP) w' := ⟨rfl, h3⟩
def vU64 (x : Nat) (_ : World) (v : Value) : Prop := v = .int .u64 (x : Int) ∧ x < 18446744073709551616
def vI64 (x : Int) (_ : World) (v : Value) : Prop := v = .int .i64 x ∧ -9223372036854775808 ≤ x ∧ x ≤ 9223372036854775807
theorem unz_rng {n : Nat} (h : n < 18446744073709551616) : -9223372036854775808 ≤ unz n ∧ unz n ≤ 9223372036854775807 := by unfold unz; split <;> omega
theorem PG.put {g : Nat} {A : Option Addr} {n cap p q : Nat} {bs : List Nat} {w : World} (h : PG g A n cap bs p w) (hq : q ≤ n) : PG g A n cap bs q (w.setCell ⟨g, 1, none⟩ (.int .i64 (q : Int))) ∧ Keep (Not g) w (w.setCell ⟨g, 1, none⟩ (.int .i64 (q : Int))) := by
  have k := Keep.set_ (Not g) w (g := g) 1 (.int .i64 (q : Int)) (fun h => h rfl)
  exact ⟨h.turn k (by have := h.blk.set_ 1 (.int .i64 (q : Int)); simpa using this) hq, k⟩
set_option maxRecDepth 100000 in
set_option maxHeartbeats 1000000 in
theorem pg_number (g : Nat) (A : Option Addr) (n cap : Nat) (bs : List Nat) (p : Nat) (w : World) (hP : Hid (PG g A n cap bs p w)) :
    Calls Tryz.prog 42 #[.pointer (some ⟨g, 0, none⟩)] w (RetR (rNum bs p) vU64 g A n cap bs w) := by
  have c0 := hP.out.blk.cell 0
  have c1 := hP.out.blk.cell 1
  have HN := Lib.hid (number_any A cap n p bs w.drew hP.out.byt hP.out.len hP.out.drew.rd hP.out.le hP.out.mx)
  obtain ⟨h1, h2, h3⟩ := rdN_lt bs p hP.out.byt
  rw [hP.out.len] at h3
  have HR := Lib.hid (show rNum bs p = if (rdN bs p).2.2 = 0 then some ((rdN bs p).1, (rdN bs p).2.1.toNat) else none from rfl)
  generalize rdN bs p = r at *
  obtain ⟨v, q, er⟩ := r
  simp only at HN HR h1 h2 h3
  obtain ⟨q, rfl⟩ := Int.eq_ofNat_of_zero_le h2
  by_cases he : er = 0
  · subst he
    rw [if_pos rfl] at HR
    have HT := Lib.hid (took_ok g q A n cap p w.drew (Lib.hid hP.out.blk))
    have HE := Lib.hid (hP.out.drew.put (q := q) (by omega))
    go_enter Tryz.func42, Tryz.ntmps42
    go_wp2
    go_region_held3 (fun w' => w'.cell? ⟨g, 0, none⟩ = some (.slice A n cap) ∧ w'.cell? ⟨g, 1, none⟩ = some (.int .i64 (p : Int))) (first | exact ⟨c0, c1⟩ | fail) (first
      | (go_at_call 92; refine HN.out.mono ?_; rintro e w1 ⟨rfl, hw⟩; rw [← hw]; clear hw))
    go_wp2_with (go_at_call 93; refine HT.out.mono ?_; rintro e w2 ⟨rfl, hw⟩; rw [hw]; clear hw)
    go_ret
    rw [HR.out]
    exact RetR.some_ ⟨rfl, h1⟩ HE.out.1 (keep_drew.trans HE.out.2)
  · rw [if_neg he] at HR
    have HT := Lib.hid (took_bad g q er w.drew (by omega))
    go_enter Tryz.func42, Tryz.ntmps42
    go_wp2
    go_region_held3 (fun w' => w'.cell? ⟨g, 0, none⟩ = some (.slice A n cap) ∧ w'.cell? ⟨g, 1, none⟩ = some (.int .i64 (p : Int))) (first | exact ⟨c0, c1⟩ | fail) (first
      | (go_at_call 92; refine HN.out.mono ?_; rintro e w1 ⟨rfl, hw⟩; rw [← hw]; clear hw))
    go_wp2_with (go_at_call 93; refine HT.out.mono ?_; rintro e w2 ⟨rfl, hw⟩; rw [hw]; clear hw)
    refine ⟨rfl, ?_⟩
    rw [HR.out]
    exact RetR.none_ keep_drew
end Go.Proofs.YthgiafjiemiifaaGreat
end
