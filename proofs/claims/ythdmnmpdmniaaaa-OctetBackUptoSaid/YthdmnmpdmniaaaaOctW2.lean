/-
  The walk of the reference's sum.
-/
import Derived.Test.YthdmnmpdmniaaaaOctW1
namespace Go.Proofs.Ythdmnmpdmniaaaa
open Go.RowKit OctMath
set_option linter.unusedVariables false
theorem stp_odd' (c : Nat) (h : c < 4294967296) (h1 : c % 2 = 1) : bits .xor .u32 ((c : Int) / 2) 2197175160 = ((stp c : Nat) : Int) := stp_odd c h h1
set_option maxRecDepth 100000 in
set_option maxHeartbeats 1000000 in
theorem rcrc_any (A : Option Addr) (cap n : Nat) (xs : List Nat) (w : World) (hx : Byt xs) (hn : xs.length = n) (hr : Reads w w.heap.size 1 A n (xs.map bv)) (hm2 : n ≤ maxLen) :
    Calls Try.prog 23 #[.slice A n cap] w fun e w' => e = .returned (.int .u32 (crc xs : Nat)) ∧ w = w' := by
  have HR := Lib.hid hr
  clear hr
  unfold maxLen at hm2
  go_enter Try.func23, Try.ntmps23
  go_wp2
  go_loop [3, 4] (fun vc vi => ∃ k : Nat, k ≤ n ∧ vi = .int .i64 k ∧ vc = .int .u32 (crcS 4294967295 (xs.take k) : Nat)) (fun _ vi => n - (intOf vi).toNat)
  case atStart => exact ⟨0, by omega, rfl, rfl⟩
  case round =>
    obtain ⟨k, hk, rfl, rfl⟩ := hrel
    have hc0 := crcS_lt (xs.take k) (c := 4294967295) (by decide) (hx.take k)
    obtain ⟨c0, e0⟩ : ∃ c0, crcS 4294967295 (xs.take k) = c0 := ⟨_, rfl⟩
    by_cases hlt : k < n
    · obtain ⟨ad, rfl, hbl, hcell⟩ := HR.out.byteD hlt
      have hxb := hx.getD k
      have es := crcS_take 4294967295 xs k (by omega)
      obtain ⟨x, ex⟩ : ∃ x, xs.getD k 0 = x := ⟨_, rfl⟩
      rw [e0] at hc0 ⊢
      rw [e0, ex] at es
      rw [ex] at hcell hxb
      have hd : c0 ^^^ x < 4294967296 := xor_lt32 hc0 (by omega)
      have x1 := xor32 c0 x hc0 (by omega)
      obtain ⟨d, ed⟩ : ∃ d, c0 ^^^ x = d := ⟨_, rfl⟩
      rw [ed] at hd x1
      have ES := Lib.hid es
      have ED := Lib.hid ed
      clear es ed ex e0
      go_wp2
      go_loop [3, 5] (fun vc vj => ∃ j : Nat, j ≤ 8 ∧ vj = .int .i64 j ∧ vc = .int .u32 (stpn j d : Nat)) (fun _ vj => 8 - (intOf vj).toNat)
      case atStart => exact ⟨0, by omega, rfl, rfl⟩
      case round =>
        obtain ⟨j, hj, rfl, rfl⟩ := hrel
        have hc : stpn j d < 4294967296 := stpn_lt j hd
        obtain ⟨c, ec⟩ : ∃ c, stpn j d = c := ⟨_, rfl⟩
        have e2 : stpn (j + 1) d = stp c := by rw [← ec]; rfl
        rw [ec] at hc ⊢
        have E2 := Lib.hid e2
        by_cases hj8 : j < 8
        · clear ec e2
          have a1 := and32_1 c hc
          by_cases h1 : c % 2 = 1
          · have a3 := stp_odd c hc h1
            rw [h1] at a1
            have H1 := Lib.hid h1
            clear h1
            go_wp2
            exact ⟨⟨j + 1, by omega, by go_num, by rw [E2.out]⟩, by simp [intOf]; omega⟩
          · have a3 : stp c = c / 2 := if_neg h1
            rw [show c % 2 = 0 from by omega] at a1
            have H1 := Lib.hid h1
            have A3 := Lib.hid a3
            clear h1 a3
            go_wp2
            exact ⟨⟨j + 1, by omega, by go_num, by rw [E2.out, A3.out]; rfl⟩, by simp [intOf]; omega⟩
        · obtain rfl : j = 8 := by omega
          have EC := Lib.hid ec
          clear ec e2 E2
          go_wp2
          exact ⟨⟨k + 1, by omega, by go_num, by rw [ES.out, ED.out, EC.out]⟩, by simp [intOf]; omega⟩
    · obtain rfl : k = n := by omega
      rw [List.take_of_length_le (by omega)] at e0 hc0 ⊢
      have hc1 := not32 _ hc0
      rw [e0] at hc0 hc1 ⊢
      have E0 := Lib.hid e0
      clear e0
      go_wp2
      go_ret
      exact ⟨by unfold crc; rw [E0.out]; rfl, rfl⟩
theorem crc_any (A : Option Addr) (cap n : Nat) (xs : List Nat) (w : World) (hx : Byt xs) (hn : xs.length = n) (hr : Reads w w.heap.size 1 A n (xs.map bv)) (hm2 : n ≤ maxLen) :
    Calls Try.prog 9 #[.slice A n cap] w fun e w' => e = .returned (.int .u32 (crc xs : Nat)) ∧ Below w.heap.size w w' := by
  by_cases h : n < 64
  · exact (crc_short A cap n xs w hx hn hr h).mono fun e w' ⟨h1, h2⟩ => ⟨h1, h2 ▸ Below.refl _ _⟩
  · exact crc_long A cap n xs w hx hn hr (by omega) hm2
end Go.Proofs.Ythdmnmpdmniaaaa
