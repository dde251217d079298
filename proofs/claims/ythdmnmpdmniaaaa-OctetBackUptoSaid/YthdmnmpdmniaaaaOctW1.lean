/-
  The walks of the sum: the program's Crc (by steps, by the table) and the reference's: both are crc.
-/
import Derived.Test.YthdmnmpdmniaaaaLib
import Derived.Test.YthdmnmpdmniaaaaOctMath
namespace Go.Proofs.Ythdmnmpdmniaaaa
open Go.RowKit OctMath
set_option linter.unusedVariables false
theorem xor32 (a b : Nat) (ha : a < 4294967296) (hb : b < 4294967296) : bits .xor .u32 (a : Int) (b : Int) = ((a ^^^ b : Nat) : Int) := u32_xor_nat a b ha hb
theorem and32_1 (c : Nat) (h : c < 4294967296) : bits .and .u32 (c : Int) 1 = ((c % 2 : Nat) : Int) := by
  have := u32_and_nat c 1 h (by omega)
  rw [Nat.and_one_is_mod] at this
  exact this
theorem and32_all : bits .and .u32 2197175160 4294967295 = 2197175160 := by decide +kernel
theorem and32_none : bits .and .u32 2197175160 0 = 0 := by decide +kernel
theorem stp_odd (c : Nat) (h : c < 4294967296) (h1 : c % 2 = 1) : bits .xor .u32 ((c : Int) / 2) 2197175160 = ((stp c : Nat) : Int) := by
  have := xor32 (c / 2) PL (by omega) (by decide)
  unfold stp; rw [if_pos h1, ← this]; rfl
theorem stp_even (c : Nat) (h : c < 4294967296) (h1 : ¬ c % 2 = 1) : bits .xor .u32 ((c : Int) / 2) 0 = ((stp c : Nat) : Int) := by
  have := xor32 (c / 2) 0 (by omega) (by decide)
  unfold stp; rw [if_neg h1]; rw [Nat.xor_zero] at this; rw [← this]; rfl
def zs32 : Array Value := Array.replicate 256 (.int .u32 0)
theorem zero32 (w : World) : (zeroValue 53).run Try.prog w = .ok (.agg zs32) w := by kernel_rfl
def tabF (k : Nat) : Nat → Value := fun i => if i < k then .int .u32 (stpn 8 i : Nat) else .int .u32 0
theorem tabF_step (k i : Nat) : (if i = k then .int .u32 (stpn 8 k : Nat) else tabF k i) = tabF (k + 1) i := by
  unfold tabF
  by_cases e : i = k
  · subst e; rw [if_pos rfl, if_pos (by omega)]
  · rw [if_neg e]
    by_cases h : i < k
    · rw [if_pos h, if_pos (by omega)]
    · rw [if_neg h, if_neg (by omega)]
def CTab (w : World) (k : Nat) (wr : World) : Prop := wr.rowIs w.heap.size 53 256 (tabF k) ∧ Below w.heap.size w wr ∧ wr.heap.size = w.heap.size + 1
set_option maxRecDepth 100000 in
set_option maxHeartbeats 1000000 in
theorem table_any (w : World) :
    Calls Try.prog 27 #[] w fun e w' => e = .returned (.pointer (some ⟨w.heap.size, 0, none⟩)) ∧ w'.rowIs w.heap.size 53 256 (fun i => .int .u32 (stpn 8 i : Nat)) ∧ Below w.heap.size w w' ∧ w'.heap.size = w.heap.size + 1 := by
  have hz := zero32
  go_enter Try.func27, Try.ntmps27
  go_wp2
  clear hz
  have hst : CTab w 0 (w.alloc (.cells zs32 53)) := by
    refine ⟨?_, (Below.refl _ _).alloc (Nat.le_refl _) _, by simp⟩
    have := World.rowIs_alloc w zs32 53 (tabF 0) (fun i hi => by
      have : i < 256 := by simpa [zs32] using hi
      unfold zs32 tabF
      rw [Array.getElem?_replicate, if_pos this, if_neg (by omega)])
    simpa [zs32] using this
  go_loopw [6] (fun vi wr => ∃ k : Nat, k ≤ 256 ∧ vi = .int .i64 k ∧ CTab w k wr) (fun vi _ => 256 - (intOf vi).toNat)
  case atStart => exact ⟨0, by omega, rfl, hst⟩
  case round =>
    clear hst
    obtain ⟨k, hk, rfl, hR, hB, hS⟩ := hrel
    by_cases hlt : k < 256
    · have f4 := hR.cell hlt
      have f5 := hR.frozen k
      have HR := Lib.hid hR
      clear hR
      go_wp2
      go_loop [3, 11] (fun vc vj => ∃ j : Nat, j ≤ 8 ∧ vj = .int .i64 j ∧ vc = .int .u32 (stpn j k : Nat)) (fun _ vj => 8 - (intOf vj).toNat)
      case atStart => exact ⟨0, by omega, rfl, rfl⟩
      case round =>
        obtain ⟨j, hj, rfl, rfl⟩ := hrel
        have hc : stpn j k < 4294967296 := stpn_lt j (by omega)
        obtain ⟨c, ec⟩ : ∃ c, stpn j k = c := ⟨_, rfl⟩
        have e2 : stpn (j + 1) k = stp c := by rw [← ec]; rfl
        rw [ec] at hc ⊢
        have E2 := Lib.hid e2
        by_cases hj8 : j < 8
        · clear ec e2
          have a1 := and32_1 c hc
          by_cases h1 : c % 2 = 1
          · have a2 := and32_all
            have a3 := stp_odd c hc h1
            rw [h1] at a1
            have H1 := Lib.hid h1
            clear h1
            go_wp2
            exact ⟨⟨j + 1, by omega, by go_num, by rw [E2.out]⟩, by simp [intOf]; omega⟩
          · have a2 := and32_none
            have a3 := stp_even c hc h1
            rw [show c % 2 = 0 from by omega] at a1
            have H1 := Lib.hid h1
            clear h1
            go_wp2
            exact ⟨⟨j + 1, by omega, by go_num, by rw [E2.out]⟩, by simp [intOf]; omega⟩
        · obtain rfl : j = 8 := by omega
          have EC := Lib.hid ec
          clear ec e2 E2
          go_wp2
          refine ⟨⟨k + 1, by omega, by go_num, ?_, hB.setCell (by simp) _, by simpa using hS⟩, by simp [intOf]; omega⟩
          rw [← EC.out]
          exact (HR.out.set k _).congr fun i _ => tabF_step k i
    · obtain rfl : k = 256 := by omega
      go_wp2
      go_ret
      exact ⟨rfl, hR.congr fun i hi => by unfold tabF; rw [if_pos hi], hB, hS⟩
theorem not32 (c : Nat) (h : c < 4294967296) : bits .xor .u32 IntKind.u32.max (c : Int) = ((4294967295 ^^^ c : Nat) : Int) := by
  have := xor32 4294967295 c (by decide) h
  rw [show IntKind.u32.max = 4294967295 from by decide]
  exact this
theorem crcS_take (c : Nat) (xs : List Nat) (k : Nat) (h : k < xs.length) : crcS c (xs.take (k + 1)) = stpn 8 (crcS c (xs.take k) ^^^ xs.getD k 0) := by
  rw [take_snocD xs k h, crcS_snoc]
set_option maxRecDepth 100000 in
set_option maxHeartbeats 1000000 in
theorem crc_short (A : Option Addr) (cap n : Nat) (xs : List Nat) (w : World) (hx : Byt xs) (hn : xs.length = n) (hr : Reads w w.heap.size 1 A n (xs.map bv)) (hm : n < 64) :
    Calls Try.prog 9 #[.slice A n cap] w fun e w' => e = .returned (.int .u32 (crc xs : Nat)) ∧ w = w' := by
  have hmb : decide ((n : Int) < 64) = true := by simp; omega
  have HR := Lib.hid hr
  clear hr
  go_enter Try.func9, Try.ntmps9
  go_wp2
  go_loop [3, 14] (fun vc vi => ∃ k : Nat, k ≤ n ∧ vi = .int .i64 k ∧ vc = .int .u32 (crcS 4294967295 (xs.take k) : Nat)) (fun _ vi => n - (intOf vi).toNat)
  case atStart => exact ⟨0, by omega, rfl, rfl⟩
  case round =>
    obtain ⟨k, hk, rfl, rfl⟩ := hrel
    have hc0 := crcS_lt (xs.take k) (c := 4294967295) (by decide) (hx.take k)
    obtain ⟨c0, e0⟩ : ∃ c0, crcS 4294967295 (xs.take k) = c0 := ⟨_, rfl⟩
    by_cases hlt : k < n
    · obtain ⟨ad, rfl, hbl, hcell⟩ := HR.out.byteD hlt
      have hxb := hx.getD k
      have es := crcS_take 4294967295 xs k (by omega)
      obtain ⟨x, ex⟩ : ∃ x, xs.getD k 0 = x := ⟨_, rfl⟩
      rw [e0] at hc0 ⊢
      rw [e0, ex] at es
      rw [ex] at hcell hxb
      have hd : c0 ^^^ x < 4294967296 := xor_lt32 hc0 (by omega)
      have x1 := xor32 c0 x hc0 (by omega)
      obtain ⟨d, ed⟩ : ∃ d, c0 ^^^ x = d := ⟨_, rfl⟩
      rw [ed] at hd x1
      have ES := Lib.hid es
      have ED := Lib.hid ed
      clear es ed ex e0
      go_wp2
      go_loop [3, 22] (fun vc vj => ∃ j : Nat, j ≤ 8 ∧ vj = .int .i64 j ∧ vc = .int .u32 (stpn j d : Nat)) (fun _ vj => 8 - (intOf vj).toNat)
      case atStart => exact ⟨0, by omega, rfl, rfl⟩
      case round =>
        obtain ⟨j, hj, rfl, rfl⟩ := hrel
        have hc : stpn j d < 4294967296 := stpn_lt j hd
        obtain ⟨c, ec⟩ : ∃ c, stpn j d = c := ⟨_, rfl⟩
        have e2 : stpn (j + 1) d = stp c := by rw [← ec]; rfl
        rw [ec] at hc ⊢
        have E2 := Lib.hid e2
        by_cases hj8 : j < 8
        · clear ec e2
          have a1 := and32_1 c hc
          by_cases h1 : c % 2 = 1
          · have a2 := and32_all
            have a3 := stp_odd c hc h1
            rw [h1] at a1
            have H1 := Lib.hid h1
            clear h1
            go_wp2
            exact ⟨⟨j + 1, by omega, by go_num, by rw [E2.out]⟩, by simp [intOf]; omega⟩
          · have a2 := and32_none
            have a3 := stp_even c hc h1
            rw [show c % 2 = 0 from by omega] at a1
            have H1 := Lib.hid h1
            clear h1
            go_wp2
            exact ⟨⟨j + 1, by omega, by go_num, by rw [E2.out]⟩, by simp [intOf]; omega⟩
        · obtain rfl : j = 8 := by omega
          have EC := Lib.hid ec
          clear ec e2 E2
          go_wp2
          exact ⟨⟨k + 1, by omega, by go_num, by rw [ES.out, ED.out, EC.out]⟩, by simp [intOf]; omega⟩
    · obtain rfl : k = n := by omega
      rw [List.take_of_length_le (by omega)] at e0 hc0 ⊢
      have hc1 := not32 _ hc0
      rw [e0] at hc0 hc1 ⊢
      have E0 := Lib.hid e0
      clear e0
      go_wp2
      go_ret
      exact ⟨by unfold crc; rw [E0.out]; rfl, rfl⟩
set_option maxRecDepth 100000 in
set_option maxHeartbeats 1000000 in
theorem crc_long (A : Option Addr) (cap n : Nat) (xs : List Nat) (w : World) (hx : Byt xs) (hn : xs.length = n) (hr : Reads w w.heap.size 1 A n (xs.map bv)) (hm : 64 ≤ n) (hm2 : n ≤ maxLen) :
    Calls Try.prog 9 #[.slice A n cap] w fun e w' => e = .returned (.int .u32 (crc xs : Nat)) ∧ Below w.heap.size w w' := by
  have HR := Lib.hid hr
  clear hr
  unfold maxLen at hm2
  have hmb : decide ((n : Int) < 64) = false := by simp; omega
  go_enter Try.func9, Try.ntmps9
  go_wp2_with (go_at_call 27; refine (table_any _).mono ?_; rintro e w1 ⟨rfl, hT, hB, hS⟩)
  have HT := Lib.hid hT
  have HR1 := Lib.hid (HR.out.below hB)
  clear hT HR
  go_loop [3, 38] (fun vc vi => ∃ k : Nat, k ≤ n ∧ vi = .int .i64 k ∧ vc = .int .u32 (crcS 4294967295 (xs.take k) : Nat)) (fun _ vi => n - (intOf vi).toNat)
  case atStart => exact ⟨0, by omega, rfl, rfl⟩
  case round =>
    obtain ⟨k, hk, rfl, rfl⟩ := hrel
    have hc0 := crcS_lt (xs.take k) (c := 4294967295) (by decide) (hx.take k)
    obtain ⟨c0, e0⟩ : ∃ c0, crcS 4294967295 (xs.take k) = c0 := ⟨_, rfl⟩
    by_cases hlt : k < n
    · obtain ⟨ad, rfl, hbl, hcell⟩ := HR1.out.byteD hlt
      have hxb := hx.getD k
      have es := crcS_take 4294967295 xs k (by omega)
      obtain ⟨x, ex⟩ : ∃ x, xs.getD k 0 = x := ⟨_, rfl⟩
      rw [e0] at hc0 ⊢
      rw [e0, ex, ← by_table (by rw [← ex]; exact hxb)] at es
      rw [ex] at hcell hxb
      have x1 := u8_xor_nat (c0 % 256) x (by omega) hxb
      have hy : c0 % 256 ^^^ x < 256 := Nat.xor_lt_two_pow (n := 8) (by omega) hxb
      obtain ⟨y, ey⟩ : ∃ y, c0 % 256 ^^^ x = y := ⟨_, rfl⟩
      rw [ey] at es x1 hy
      have ft := HT.out.cell hy
      have x2 := xor32 (c0 / 256) (stpn 8 y) (by omega) (stpn_lt 8 (by omega))
      rw [← es] at x2
      have x3 : bits .xor .u8 ((c0 : Int) % 256) (x : Int) = (y : Int) := x1
      have x4 : bits .xor .u32 ((c0 : Int) / 256) ((stpn 8 y : Nat) : Int) = ((crcS 4294967295 (xs.take (k + 1)) : Nat) : Int) := x2
      clear x1 x2
      have ES := Lib.hid es
      clear es ex e0 ey
      go_wp2
      exact ⟨⟨k + 1, by omega, by go_num, rfl⟩, by simp [intOf]; omega⟩
    · obtain rfl : k = n := by omega
      rw [List.take_of_length_le (by omega)] at e0 hc0 ⊢
      have hc1 := not32 _ hc0
      rw [e0] at hc0 hc1 ⊢
      have E0 := Lib.hid e0
      clear e0
      go_wp2
      go_ret
      exact ⟨by unfold crc; rw [E0.out]; rfl, hB⟩
end Go.Proofs.Ythdmnmpdmniaaaa
