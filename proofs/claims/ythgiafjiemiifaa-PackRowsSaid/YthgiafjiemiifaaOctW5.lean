/-
  The walks that read: Number, Int, Bytes.
-/
import Derived.Test.YthgiafjiemiifaaOctW4
namespace Go.Proofs.Ythgiafjiemiifaa
open Go.RowKit OctMath
set_option linter.unusedVariables false
theorem ret3_nat {n e : Nat} {p : Int} {n' e' : Nat} {p' : Int} (h1 : n = n') (h2 : p = p') (h3 : e = e') :
    Ending.returned (.tuple #[.int .u64 (n : Int), .int .i64 p, .int .i64 (e : Int)]) = .returned (.tuple #[.int .u64 (n' : Int), .int .i64 p', .int .i64 (e' : Int)]) := by rw [h1, h2, h3]
theorem pow128 (i : Nat) : (2 : Nat) ^ (7 * i) = 128 ^ i := by rw [Nat.pow_mul]
theorem or_add (acc d i : Nat) (h : acc < 128 ^ i) : acc ||| d * 128 ^ i = acc + d * 128 ^ i := by
  rw [← pow128] at h ⊢
  have := Nat.two_pow_add_eq_or_of_lt h d
  rw [Nat.or_comm, Nat.mul_comm d, ← this, Nat.add_comm]
theorem num_step (i acc d : Nat) (hi : i ≤ 9) (hacc : acc < 128 ^ i) (hd : d < 128) (h9 : i = 9 → d ≤ 1) :
    IntKind.u64.wrap ((d : Int) * 2 ^ (7 * i)) = ((d * 128 ^ i : Nat) : Int) ∧ bits .or .u64 (acc : Int) ((d * 128 ^ i : Nat) : Int) = ((acc + d * 128 ^ i : Nat) : Int) ∧ acc + d * 128 ^ i < 128 ^ (i + 1) ∧ d * 128 ^ i < 18446744073709551616 := by
  have hb : acc + d * 128 ^ i < 18446744073709551616 := by
    rcases Nat.lt_or_ge i 9 with h | h
    · have h1 : 128 ^ i ≤ 128 ^ 8 := Nat.pow_le_pow_right (by omega) (by omega)
      have h2 : d * 128 ^ i ≤ 127 * 128 ^ 8 := Nat.mul_le_mul (by omega) h1
      have h3 : (127 : Nat) * 128 ^ 8 = 9151314442816847872 := by decide
      have h4 : (128 : Nat) ^ 8 = 72057594037927936 := by decide
      omega
    · obtain rfl : i = 9 := by omega
      have h1 : d ≤ 1 := h9 rfl
      have h4 : (128 : Nat) ^ 9 = 9223372036854775808 := by decide
      have h2 : d * 128 ^ 9 ≤ 1 * 128 ^ 9 := Nat.mul_le_mul_right _ h1
      omega
  have hs : d * 128 ^ i < 18446744073709551616 := by omega
  have e1 : (d : Int) * 2 ^ (7 * i) = ((d * 128 ^ i : Nat) : Int) := by rw [← pow128, Int.natCast_mul, Int.natCast_pow]; rfl
  refine ⟨?_, ?_, ?_, hs⟩
  · rw [e1]; exact IntWalk.u64_in _ (by omega)
  · rw [u64_or_nat acc (d * 128 ^ i) (by omega) hs, or_add acc d i hacc]
  · rw [Nat.pow_succ]
    have : d * 128 ^ i ≤ 127 * 128 ^ i := Nat.mul_le_mul_right _ (by omega)
    omega
theorem and127_8 (c : Nat) (h : c < 256) : bits .and .u8 (c : Int) 127 = ((c % 128 : Nat) : Int) := by
  have h1 := u8_and_nat c 127 h (by omega)
  rw [show c &&& 127 = c % 128 from Nat.and_two_pow_sub_one_eq_mod c 7] at h1
  exact h1
theorem ret3_nat' {n : Nat} {p p' : Int} {m : Int} {e : Int} (h1 : m = (n : Int)) (h2 : p = p') :
    Ending.returned (.tuple #[.int .u64 m, .int .i64 p, .int .i64 e]) = .returned (.tuple #[.int .u64 (n : Int), .int .i64 p', .int .i64 e]) := by rw [h1, h2]
set_option maxRecDepth 100000 in
set_option maxHeartbeats 1000000 in
theorem number_out (A : Option Addr) (cap n : Nat) (at_ : Int) (w : World) (h : at_ < 0 ∨ (n : Int) < at_) (hm : n ≤ maxLen) :
    Calls Try.prog 91 #[.slice A n cap, .int .i64 at_] w fun e w' => e = .returned (.tuple #[.int .u64 0, .int .i64 0, .int .i64 2]) ∧ w = w' := by
  unfold maxLen at hm
  by_cases h0 : at_ < 0
  · go_enter Try.func91, Try.ntmps91
    go_wp2
    go_ret3
    exact ⟨rfl, rfl⟩
  · have h1 : (n : Int) < at_ := by omega
    clear h
    go_enter Try.func91, Try.ntmps91
    go_wp2
    go_ret3
    exact ⟨rfl, rfl⟩
set_option maxRecDepth 100000 in
set_option maxHeartbeats 1000000 in
theorem number_in (A : Option Addr) (cap n k : Nat) (bs : List Nat) (w : World) (hb : Byt bs) (hn : bs.length = n) (hr : Reads w w.heap.size 1 A n (bs.map bv)) (hk : k ≤ n) (hc : n ≤ cap) (hm : cap ≤ maxLen) :
    Calls Try.prog 91 #[.slice A n cap, .int .i64 k] w fun e w' => e = .returned (.tuple #[.int .u64 (rdN bs k).1, .int .i64 (rdN bs k).2.1, .int .i64 (rdN bs k).2.2]) ∧ w = w' := by
  unfold maxLen at hm
  obtain ⟨i0, hi, h2, h3, h4⟩ := info_parts Try.infoU8
  have hsl := slice_from Try.underlying22 hi h3 A n cap k hk hc
  have hcut := hr.cut hk hc
  rw [← List.map_drop, Nat.mul_one] at hcut
  rw [Nat.mul_one] at hsl
  obtain ⟨A2, hA2⟩ : ∃ A2, (if cap = k then A else A.map (·.add k)) = A2 := ⟨_, rfl⟩
  rw [hA2] at hsl hcut
  have hds : Byt (bs.drop k) := hb.drop k
  have hdl : (bs.drop k).length = n - k := by simp [hn]
  obtain ⟨ds, hdd⟩ : ∃ ds, bs.drop k = ds := ⟨_, rfl⟩
  have hrd : rdN bs k = (let r := rdF ds 0 0; if r.2.2 = 0 then (r.1, (k : Int) + r.2.1, 0) else (0, 0, r.2.2)) := by
    unfold rdN
    rw [if_neg (by omega), show ((k : Int)).toNat = k from by omega, hdd]
  rw [hdd] at hcut hds hdl
  have RD := Lib.hid hrd
  have hkb : decide ((k : Int) < 0) = false := by simp
  obtain ⟨L, hL⟩ : ∃ L, n - k = L := ⟨_, rfl⟩
  rw [hL] at hsl hdl hcut
  have HR := Lib.hid hcut
  have hLm : L ≤ 9223372036854775807 := by omega
  have hpL : k + L ≤ 9223372036854775807 := by omega
  have hk2 : (k : Int) ≤ n := by omega
  clear hr hcut hrd hA2 hdd hb hn hi h2 h3 h4 hL
  go_enter Try.func91, Try.ntmps91
  go_wp2
  go_loop [7, 22] (fun vn vi => ∃ i acc : Nat, i ≤ L ∧ i ≤ 9 ∧ acc < 128 ^ i ∧ vi = .int .i64 i ∧ vn = .int .u64 acc ∧ rdF (ds.drop i) i acc = rdF ds 0 0) (fun _ vi => L - (intOf vi).toNat)
  case atStart => exact ⟨0, 0, by omega, by omega, by decide, rfl, rfl, rfl⟩
  case round =>
    obtain ⟨i, acc, hi, hi9, hacc, rfl, rfl, hrel⟩ := hrel
    by_cases hlt : i < L
    · obtain ⟨ad, rfl, hbl, hcell⟩ := HR.out.byteD hlt
      have hcb := hds.getD i
      have hdrop : ds.drop i = ds.getD i 0 :: ds.drop (i + 1) := by
        rw [List.drop_eq_getElem_cons (by omega), List.getD_eq_getElem?_getD, List.getElem?_eq_getElem (by omega)]; rfl
      obtain ⟨c, hc0⟩ : ∃ c, ds.getD i 0 = c := ⟨_, rfl⟩
      rw [hc0] at hcell hcb hdrop
      rw [hdrop, rdF] at hrel
      have H := Lib.hid hrel
      clear hrel hdrop hc0
      by_cases hbad : (i = 9 ∧ 1 < c) ∨ (0 < i ∧ c = 0)
      · have hr := H.out
        rw [if_pos hbad] at hr
        have R1 := Lib.hid hr
        have hres : rdN bs k = (0, 0, 41) := by rw [RD.out, ← R1.out]; rfl
        have HS := Lib.hid hres
        clear hr hres
        by_cases hc0 : c = 0
        · have hi0 : 0 < i := by omega
          have hcz : ((c : Int) == 0) = true := by simpa using hc0
          have hc1 : (c : Int) ≤ 1 := by omega
          clear hbad H
          have HC := Lib.hid hc0
          clear hc0
          rcases hb9 : ((i : Int) == 9) with _ | _
          all_goals
            go_wp2
            go_ret3
            exact ⟨by rw [HS.out]; rfl, rfl⟩
        · have hi9' : i = 9 := by omega
          have hb9 : ((i : Int) == 9) = true := by rw [hi9']; rfl
          have hc1 : 1 < c := by omega
          have HI := Lib.hid hi9'
          clear hbad H hi9'
          go_wp2
          go_ret3
          exact ⟨by rw [HS.out]; rfl, rfl⟩
      · have hr := H.out
        rw [if_neg hbad] at hr
        have a1 := and127_8 c hcb
        have hd : c % 128 < 128 := by omega
        have h91 : i = 9 → c % 128 ≤ 1 := by omega
        have h99 : 128 ≤ c → i < 9 := by omega
        obtain ⟨d, ed⟩ : ∃ d, c % 128 = d := ⟨_, rfl⟩
        rw [ed] at a1 hd h91 hr
        obtain ⟨n1, n2, n3, n4⟩ := num_step i acc d hi9 hacc hd h91
        obtain ⟨s, es⟩ : ∃ s, d * 128 ^ i = s := ⟨_, rfl⟩
        rw [es] at n1 n2 n3 n4 hr
        have HR1 := Lib.hid hr
        have N3 := Lib.hid n3
        have hsum : 0 ≤ (i : Int) + 1 := by omega
        clear hr es ed n3 H h91 hacc
        by_cases hlo : c < 128
        · have hr2 := HR1.out
          rw [if_pos hlo] at hr2
          have hres : rdN bs k = (acc + s, (k : Int) + ((i + 1 : Nat) : Int), 0) := by rw [RD.out, ← hr2]; rfl
          have HS := Lib.hid hres
          have hfin : ∀ x : Nat, ((acc + s : Nat) : Int) = x → True := fun _ _ => trivial
          clear hr2 hres hfin HR1
          by_cases h0 : i = 0
          · have i1 : ((i : Int) == 9) = false := by rw [h0]; rfl
            have i2 : ¬ 0 < i := by omega
            have H0 := Lib.hid h0
            clear h0 hbad
            go_wp2
            go_ret3
            exact ⟨by rw [HS.out]; exact ret3_nat' rfl (by show _ = (k : Int) + ((i + 1 : Nat) : Int); omega), rfl⟩
          · have i2 : 0 < i := by omega
            have hcz : ((c : Int) == 0) = false := by rw [beq_eq_false_iff_ne]; omega
            rcases hb9 : ((i : Int) == 9) with _ | _
            · clear hbad
              go_wp2
              go_ret3
              exact ⟨by rw [HS.out]; exact ret3_nat' rfl (by show _ = (k : Int) + ((i + 1 : Nat) : Int); omega), rfl⟩
            · have hc1 : c ≤ 1 := by
                have : i = 9 := by have := eq_of_beq hb9; omega
                omega
              clear hbad
              go_wp2
              go_ret3
              exact ⟨by rw [HS.out]; exact ret3_nat' rfl (by show _ = (k : Int) + ((i + 1 : Nat) : Int); omega), rfl⟩
        · have hr2 := HR1.out
          rw [if_neg hlo] at hr2
          have HS := Lib.hid hr2
          have hi8 : i < 9 := h99 (by omega)
          have i1 : ((i : Int) == 9) = false := by rw [beq_eq_false_iff_ne]; omega
          have hcz : ((c : Int) == 0) = false := by rw [beq_eq_false_iff_ne]; omega
          clear hr2 HR1 h99 hbad
          by_cases h0 : 0 < i
          · go_wp2
            exact ⟨⟨i + 1, acc + s, by omega, by omega, N3.out, by go_num, rfl, HS.out⟩, by simp [intOf]; omega⟩
          · go_wp2
            exact ⟨⟨i + 1, acc + s, by omega, by omega, N3.out, by go_num, rfl, HS.out⟩, by simp [intOf]; omega⟩
    · obtain rfl : i = L := by omega
      rw [List.drop_of_length_le (by omega), rdF] at hrel
      have hres : rdN bs k = (0, 0, 40) := by rw [RD.out, ← hrel]; rfl
      have HS := Lib.hid hres
      clear hres hrel
      go_wp2
      go_ret3
      exact ⟨by rw [HS.out]; rfl, rfl⟩
end Go.Proofs.Ythgiafjiemiifaa
