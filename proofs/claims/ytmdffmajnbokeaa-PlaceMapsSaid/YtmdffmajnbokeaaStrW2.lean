/-
  The walks of the logarithm, the program's and the reference's.
-/
import Derived.Test.YtmdffmajnbokeaaStrW1
import Derived.Lib.BitFns
import Derived.Lib.Walk
namespace Go.Proofs.Ytmdffmajnbokeaa
open Go.RowKit StrMath
set_option linter.unusedVariables false
theorem len8_all : ∀ j : Fin 256, 1 ≤ j.val → (Lib.len8tab[j.val]'(by rw [Lib.len8tab_size]; exact j.isLt)).toNat = Nat.log2 j.val + 1 := by decide +kernel
theorem len8_log (u : Nat) (h1 : 1 ≤ u) (h2 : u < 256) : (Lib.len8tab[u]'(by rw [Lib.len8tab_size]; exact h2)).toNat = Nat.log2 u + 1 := len8_all ⟨u, h2⟩ h1
set_option maxHeartbeats 4000000 in
set_option maxRecDepth 100000 in
theorem len64_small (u : Nat) (w : World) (h1 : 1 ≤ u) (h2 : u < 256) :
    Calls Try.prog 53 #[.int .u64 u] w fun e w' => e = .returned (.int .i64 ((Nat.log2 u + 1 : Nat) : Int)) ∧ w = w' := by
  have a1 : decide ((4294967296 : Int) ≤ (u : Int)) = false := decide_eq_false (by omega)
  have a2 : decide ((65536 : Int) ≤ (u : Int)) = false := decide_eq_false (by omega)
  have a3 : decide ((256 : Int) ≤ (u : Int)) = false := decide_eq_false (by omega)
  go_enter Try.func53, Try.ntmps53
  go_wp2
  go_ret
  have l := log2_le h1 (by omega)
  refine ⟨ret_int ?_, rfl⟩
  rw [len8_log u h1 h2]
  simp only [wrap64]
  omega
set_option maxHeartbeats 4000000 in
set_option maxRecDepth 100000 in
theorem len64_mid (u : Nat) (w : World) (h1 : 256 ≤ u) (h2 : u < 65536) :
    Calls Try.prog 53 #[.int .u64 u] w fun e w' => e = .returned (.int .i64 ((Nat.log2 u + 1 : Nat) : Int)) ∧ w = w' := by
  have a1 : decide ((4294967296 : Int) ≤ (u : Int)) = false := decide_eq_false (by omega)
  have a2 : decide ((65536 : Int) ≤ (u : Int)) = false := decide_eq_false (by omega)
  have a3 : decide ((256 : Int) ≤ (u : Int)) = true := decide_eq_true (by omega)
  have a4 : 0 ≤ (u : Int) / 256 ∧ (u : Int) / 256 < (Lib.len8tab.size : Int) := by rw [Lib.len8tab_size]; omega
  go_enter Try.func53, Try.ntmps53
  go_wp2
  go_ret
  have l := log2_le (u := u) (by omega) (by omega)
  have e2 : Nat.log2 u = Nat.log2 (u / 256) + 8 := by
    have h3 := log2_rng (show 1 ≤ u / 256 by omega)
    have h0 : u ≠ 0 := by omega
    refine (Nat.log2_eq_iff h0).2 ⟨?_, ?_⟩
    · rw [Nat.pow_add]
      have := h3.1
      omega
    · rw [show (u / 256).log2 + 8 + 1 = ((u / 256).log2 + 1) + 8 from by omega, Nat.pow_add]
      have := h3.2
      omega
  refine ⟨ret_int ?_, rfl⟩
  rw [len8_log (u / 256) (by omega) (by omega), e2]
  simp only [wrap64]
  omega
theorem len8_1 : Lib.len8 1 = 1 := by decide +kernel
set_option maxHeartbeats 4000000 in
set_option maxRecDepth 100000 in
theorem len64_top (w : World) :
    Calls Try.prog 53 #[.int .u64 65536] w fun e w' => e = .returned (.int .i64 17) ∧ w = w' := by
  have e1 := len8_1
  go_enter Try.func53, Try.ntmps53
  go_wp2
  go_ret
  exact ⟨rfl, rfl⟩
theorem len64_any (u : Nat) (w : World) (h1 : 1 ≤ u) (h2 : u ≤ 65536) :
    Calls Try.prog 53 #[.int .u64 u] w fun e w' => e = .returned (.int .i64 ((Nat.log2 u + 1 : Nat) : Int)) ∧ w = w' := by
  by_cases h3 : u < 256
  · exact len64_small u w h1 h3
  · by_cases h4 : u < 65536
    · exact len64_mid u w (by omega) h4
    · obtain rfl : u = 65536 := by omega
      have e : Nat.log2 65536 = 16 := by rw [show (65536 : Nat) = 2 ^ 16 from rfl, Nat.log2_two_pow]
      rw [e]
      exact len64_top w
set_option maxRecDepth 100000 in
theorem len_any (u : Nat) (w : World) (h1 : 1 ≤ u) (h2 : u ≤ 65536) :
    Calls Try.prog 46 #[.int .u64 u] w fun e w' => e = .returned (.int .i64 ((Nat.log2 u + 1 : Nat) : Int)) ∧ w = w' := by
  go_enter Try.func46, Try.ntmps46
  go_wp2_with fail
  refine (len64_any u _ h1 h2).mono ?_
  rintro e w' ⟨rfl, rfl⟩
  go_wp2
  go_ret
  exact ⟨rfl, rfl⟩
theorem or_bit (a b : Nat) (ha : a < 4611686018427387904) (hb : b ≤ 1) : bits .or .i64 ((a : Int) * 2) (b : Int) = ((2 * a + b : Nat) : Int) := by
  have e1 : BitVec.ofInt 64 ((a : Int) * 2) = BitVec.ofInt 64 ((2 * a : Nat) : Int) := by congr 1; omega
  have e2 : (2 * a) ||| b = 2 * a + b := by
    have := Nat.two_pow_add_eq_or_of_lt (i := 1) (b := b) (by omega) a
    rw [Nat.pow_one] at this
    exact this.symm
  show IntKind.i64.wrap ((BitVec.ofInt 64 ((a : Int) * 2) ||| BitVec.ofInt 64 (b : Int)).toNat : Int) = _
  rw [e1, BitVec.toNat_or, ofInt_u64 (2 * a) (by omega), ofInt_u64 b (by omega), e2]
  simp only [IntKind.wrap, IntKind.signed, IntKind.bits]
  simp
  omega
/-- One round of the program's loop, in the walk's own words. -/
theorem round_eqs (y : Nat) (h1 : 2147483648 ≤ y) (h2 : y < 4294967296) : 
    IntKind.u64.wrap ((y : Int) * (y : Int)) / 2147483648 = ((stZ y : Nat) : Int) ∧ ((stZ y : Nat) : Int) / 4294967296 = ((stB y : Nat) : Int) ∧ ((stZ y : Nat) : Int) / 2 ^ (stB y) = ((stY y : Nat) : Int) := by
  have h3 := sq_lt h2
  have h4 := stZ_ge h1
  have h5 := stZ_lt h2
  refine ⟨?_, ?_, ?_⟩
  · rw [← Int.natCast_mul, IntKind.wrap_u64]; unfold stZ; omega
  · unfold stB; split <;> omega
  · unfold stB stY; split
    · simp
    · simp
set_option maxRecDepth 100000 in
theorem ln_any (u : Int) (w : World) (wu : Lit.wf (.int .i64 u)) :
    Calls Try.prog 37 #[.int .i64 u] w fun e w' => e = .returned (.int .i64 (ln u : Nat)) ∧ w = w' := by
  have ha : -9223372036854775808 ≤ u ∧ u ≤ 9223372036854775807 := by simpa [Lit.wf, IntKind.min, IntKind.max, IntKind.signed, IntKind.bits] using wu
  clear wu
  by_cases h1 : u < 1 ∨ 65536 < u
  · have e0 : ln u = 0 := by unfold ln; rw [if_pos h1]
    rw [e0]
    by_cases h2 : u < 1
    · have d1 : decide (u < 1) = true := decide_eq_true h2
      go_enter Try.func37, Try.ntmps37
      go_wp2
      go_ret
      exact ⟨rfl, rfl⟩
    · have d1 : decide (u < 1) = false := decide_eq_false h2
      have d2 : decide (65536 < u) = true := decide_eq_true (by omega)
      go_enter Try.func37, Try.ntmps37
      go_wp2
      go_ret
      exact ⟨rfl, rfl⟩
  · obtain ⟨n, rfl⟩ : ∃ n : Nat, u = n := ⟨u.toNat, by omega⟩
    have g1 : 1 ≤ n := by omega
    have g2 : n ≤ 65536 := by omega
    have d1 : decide ((n : Int) < 1) = false := decide_eq_false (by omega)
    have d2 : decide ((65536 : Int) < (n : Int)) = false := decide_eq_false (by omega)
    have hk := log2_le g1 g2
    have hlen := fun W => len_any n W g1 g2
    obtain ⟨k, ek⟩ : ∃ k, Nat.log2 n = k := ⟨_, rfl⟩
    rw [ek] at hk hlen
    have y1 := yOf_rng g1 g2
    have ey : yOf n = n * 2 ^ (31 - k) := by unfold yOf; rw [ek]
    have el : ln (n : Int) = k * 16777216 + nN 24 (yOf n) := by unfold ln lnN; rw [if_neg h1, Int.toNat_natCast, ek]
    obtain ⟨y0, ey0⟩ : ∃ y, yOf n = y := ⟨_, rfl⟩
    rw [ey0] at ey y1 el
    have q0 : IntKind.u64.wrap ((n : Int) * 2 ^ (31 - k)) = (y0 : Int) := by
      rw [show (n : Int) * 2 ^ (31 - k) = ((n * 2 ^ (31 - k) : Nat) : Int) from by simp, ← ey, IntKind.wrap_u64]; omega
    have HL := Lib.hid hlen
    have EK := Lib.hid el
    have Y1 := Lib.hid y1
    clear hlen ek el ey ey0 y1
    go_enter Try.func37, Try.ntmps37
    go_wp2_with fail
    refine (HL.out _).mono ?_
    rintro e w' ⟨rfl, rfl⟩
    go_wp2
    go_loop [4, 5, 6, 23] (fun vy vo vb vi => ∃ j : Nat, j ≤ 24 ∧ vi = .int .i64 j ∧ vy = .int .u64 (yN j y0 : Nat) ∧ vo = .int .i64 (k * 2 ^ j + nN j y0 : Nat)) (fun _ _ _ vi => 24 - (intOf vi).toNat)
    case atStart => exact ⟨0, by omega, rfl, rfl, by simp [nN]⟩
    case round =>
      obtain ⟨j, hj, rfl, rfl, rfl⟩ := hrel
      have y2 := yN_rng Y1.out.1 Y1.out.2 j
      have n2 := nN_lt y0 j
      by_cases hlt : j < 24
      · have r0 := round_eqs (yN j y0) y2.1 y2.2
        have r5 : k * 2 ^ j + nN j y0 < 4611686018427387904 := by
          have p1 := Nat.pow_le_pow_right (n := 2) (by omega) (show j ≤ 24 by omega)
          have p2 := Nat.mul_le_mul hk p1
          omega
        have r4 := or_bit (k * 2 ^ j + nN j y0) (stB (yN j y0)) r5 (stB_le _)
        have r6 : k * 2 ^ (j + 1) + nN (j + 1) y0 = 2 * (k * 2 ^ j + nN j y0) + stB (yN j y0) := by
          show k * 2 ^ (j + 1) + (2 * nN j y0 + stB (yN j y0)) = _
          rw [Nat.pow_succ, ← Nat.mul_assoc]; omega
        have r7 : yN (j + 1) y0 = stY (yN j y0) := rfl
        have r8 := stB_le (yN j y0)
        have r9 := stZ_lt y2.2
        obtain ⟨y, e1⟩ : ∃ y, yN j y0 = y := ⟨_, rfl⟩
        obtain ⟨m, e2⟩ : ∃ m, k * 2 ^ j + nN j y0 = m := ⟨_, rfl⟩
        rw [e1] at r0 r4 r6 r7 r8 r9 y2 ⊢
        rw [e2] at r4 r5 r6 ⊢
        obtain ⟨z, e3⟩ : ∃ z, stZ y = z := ⟨_, rfl⟩
        obtain ⟨b, e4⟩ : ∃ b, stB y = b := ⟨_, rfl⟩
        obtain ⟨y', e5⟩ : ∃ y', stY y = y' := ⟨_, rfl⟩
        rw [e3, e4, e5] at r0
        rw [e4] at r4 r6 r8
        rw [e3] at r9
        rw [e5] at r7
        obtain ⟨q1, q2, q3⟩ := r0
        have R6 := Lib.hid r6
        have R7 := Lib.hid r7
        clear r6 r7 e1 e2 e3 e4 e5 n2
        go_wp2
        exact ⟨⟨j + 1, by omega, by go_num, by rw [R7.out], by rw [R6.out]; simp⟩, by simp [intOf]; omega⟩
      · obtain rfl : j = 24 := by omega
        rw [show (2 : Nat) ^ 24 = 16777216 from rfl, ← EK.out]
        go_wp2
        go_ret
        exact ⟨rfl, rfl⟩
set_option maxRecDepth 100000 in
theorem rln_any (u : Int) (w : World) (wu : Lit.wf (.int .i64 u)) :
    Calls Try.prog 47 #[.int .i64 u] w fun e w' => e = .returned (.int .i64 (ln u : Nat)) ∧ w = w' := by
  have ha : -9223372036854775808 ≤ u ∧ u ≤ 9223372036854775807 := by simpa [Lit.wf, IntKind.min, IntKind.max, IntKind.signed, IntKind.bits] using wu
  clear wu
  by_cases h1 : u < 1 ∨ 65536 < u
  · have e0 : ln u = 0 := by unfold ln; rw [if_pos h1]
    rw [e0]
    by_cases h2 : u < 1
    · have d1 : decide (u < 1) = true := decide_eq_true h2
      go_enter Try.func47, Try.ntmps47
      go_wp2
      go_ret
      exact ⟨rfl, rfl⟩
    · have d1 : decide (u < 1) = false := decide_eq_false h2
      have d2 : decide (65536 < u) = true := decide_eq_true (by omega)
      go_enter Try.func47, Try.ntmps47
      go_wp2
      go_ret
      exact ⟨rfl, rfl⟩
  · obtain ⟨n, rfl⟩ : ∃ n : Nat, u = n := ⟨u.toNat, by omega⟩
    have g1 : 1 ≤ n := by omega
    have g2 : n ≤ 65536 := by omega
    have d1 : decide ((n : Int) < 1) = false := decide_eq_false (by omega)
    have d2 : decide ((65536 : Int) < (n : Int)) = false := decide_eq_false (by omega)
    have hk := log2_le g1 g2
    have hsh : ∀ e : Nat, (e + 1 ≤ Nat.log2 n ↔ 0 < n / 2 ^ (e + 1)) := by
      intro e
      have l2 := log2_rng g1
      constructor
      · intro h
        have := Nat.pow_le_pow_right (n := 2) (by omega) h
        exact Nat.div_pos (by omega) (Nat.two_pow_pos _)
      · intro h
        rcases Nat.lt_or_ge (Nat.log2 n) (e + 1) with h5 | h5
        · have := Nat.pow_le_pow_right (n := 2) (by omega) (show Nat.log2 n + 1 ≤ e + 1 by omega)
          rw [Nat.div_eq_of_lt (by omega)] at h
          omega
        · exact h5
    obtain ⟨k, ek⟩ : ∃ k, Nat.log2 n = k := ⟨_, rfl⟩
    rw [ek] at hk hsh
    have y1 := yOf_rng g1 g2
    have ey : yOf n = n * 2 ^ (31 - k) := by unfold yOf; rw [ek]
    have el : ln (n : Int) = k * 16777216 + nN 24 (yOf n) := by unfold ln lnN; rw [if_neg h1, Int.toNat_natCast, ek]
    obtain ⟨y0, ey0⟩ : ∃ y, yOf n = y := ⟨_, rfl⟩
    rw [ey0] at ey y1 el
    have q0 : IntKind.u64.wrap ((n : Int) * 2 ^ (31 - k)) = (y0 : Int) := by
      rw [show (n : Int) * 2 ^ (31 - k) = ((n * 2 ^ (31 - k) : Nat) : Int) from by simp, ← ey, IntKind.wrap_u64]; omega
    have SH := Lib.hid hsh
    have EK := Lib.hid el
    have Y1 := Lib.hid y1
    have Q0 := Lib.hid q0
    clear ek el ey ey0 y1 hsh q0
    go_enter Try.func47, Try.ntmps47
    go_wp2
    go_loop [3] (fun ve => ∃ e : Nat, e ≤ k ∧ ve = .int .i64 e) (fun ve => k - (intOf ve).toNat)
    case atStart => exact ⟨0, by omega, rfl⟩
    case round =>
      obtain ⟨e, he, rfl⟩ := hrel
      have s1 := SH.out e
      by_cases hlt : e + 1 ≤ k
      · have s2 : decide (0 < (n : Int) / 2 ^ (e + 1)) = true := decide_eq_true (by
          rw [show (n : Int) / 2 ^ (e + 1) = ((n / 2 ^ (e + 1) : Nat) : Int) from by simp]
          have := s1.1 hlt; omega)
        clear s1
        go_wp2
        exact ⟨⟨e + 1, by omega, by go_num⟩, by simp [intOf]; omega⟩
      · obtain rfl : e = k := by omega
        have s2 : decide (0 < (n : Int) / 2 ^ (e + 1)) = false := decide_eq_false (by
          rw [show (n : Int) / 2 ^ (e + 1) = ((n / 2 ^ (e + 1) : Nat) : Int) from by simp]
          intro h
          have := s1.2 (by omega); omega)
        have q0 := Q0.out
        clear s1
        go_wp2
        clear s2 q0
        go_loop [4, 5, 6] (fun vy vo vi => ∃ j : Nat, j ≤ 24 ∧ vi = .int .i64 j ∧ vy = .int .u64 (yN j y0 : Nat) ∧ vo = .int .i64 (nN j y0 : Nat)) (fun _ _ vi => 24 - (intOf vi).toNat)
        case atStart => exact ⟨0, by omega, rfl, rfl, rfl⟩
        case round =>
          obtain ⟨j, hj, rfl, rfl, rfl⟩ := hrel
          have y2 := yN_rng Y1.out.1 Y1.out.2 j
          have n2 := nN_lt y0 j
          by_cases hlt : j < 24
          · have r0 := (round_eqs (yN j y0) y2.1 y2.2).1
            have r5 : nN j y0 < 4611686018427387904 := by
              have p1 := Nat.pow_le_pow_right (n := 2) (by omega) (show j ≤ 24 by omega)
              omega
            have r6 : nN (j + 1) y0 = 2 * nN j y0 + stB (yN j y0) := rfl
            have r7 : yN (j + 1) y0 = stY (yN j y0) := rfl
            have r9 := stZ_lt y2.2
            obtain ⟨y, e1⟩ : ∃ y, yN j y0 = y := ⟨_, rfl⟩
            obtain ⟨m, e2⟩ : ∃ m, nN j y0 = m := ⟨_, rfl⟩
            rw [e1] at r0 r6 r7 r9 y2 ⊢
            rw [e2] at r5 r6 ⊢
            unfold stB at r6
            unfold stY at r7
            obtain ⟨z, e3⟩ : ∃ z, stZ y = z := ⟨_, rfl⟩
            rw [e3] at r0 r6 r7 r9
            by_cases hz : z < 4294967296
            · rw [if_pos hz] at r6 r7
              have d3 : decide ((4294967296 : Int) ≤ (z : Int)) = false := decide_eq_false (by omega)
              have R6 := Lib.hid r6
              have R7 := Lib.hid r7
              clear r6 r7 e1 e2 e3 n2
              go_wp2
              exact ⟨⟨j + 1, by omega, by go_num, by rw [R7.out], by rw [R6.out]; simp⟩, by simp [intOf]; omega⟩
            · rw [if_neg hz] at r6 r7
              have d3 : decide ((4294967296 : Int) ≤ (z : Int)) = true := decide_eq_true (by omega)
              have R6 := Lib.hid r6
              have R7 := Lib.hid r7
              clear r6 r7 e1 e2 e3 n2
              go_wp2
              exact ⟨⟨j + 1, by omega, by go_num, by rw [R7.out]; simp, by rw [R6.out]; simp⟩, by simp [intOf]; omega⟩
          · obtain rfl : j = 24 := by omega
            have n2' : nN 24 y0 < 16777216 := n2
            have ek := EK.out
            obtain ⟨m, e2⟩ : ∃ m, nN 24 y0 = m := ⟨_, rfl⟩
            rw [e2] at ek n2' ⊢
            have EK2 := Lib.hid ek
            clear n2 e2 ek y2
            go_wp2
            go_ret
            exact ⟨ret_int (by rw [EK2.out]; simp), rfl⟩
end Go.Proofs.Ytmdffmajnbokeaa
