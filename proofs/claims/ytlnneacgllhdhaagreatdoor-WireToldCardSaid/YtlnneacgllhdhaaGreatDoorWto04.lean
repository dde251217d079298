/-
  The walks of the sum: the program's Crc (by steps, by the table) and the reference's: both are crc; The walk of the reference's sum; The walks of Word and Flag; contracts that speak of rows of bytes alone; FRAMES as bytes: what is read of a stream, what a cut or turned bits make of it. Plain; number; word. (joined out of OctW1, OctW2, OctW8, WirM, WirF1 by shake.py)
-/
import Derived.Lib.SlBytesConst
import Derived.Test.YtlnneacgllhdhaaGreatDoorWto01
import Derived.Test.YtlnneacgllhdhaaGreatDoorWto02
import Derived.Test.YtlnneacgllhdhaaGreatDoorWto03
section
namespace Go.Proofs.YtlnneacgllhdhaaGreatDoor
open Go.RowKit OctMath
set_option linter.unusedVariables false
theorem xor32 (a b : Nat) (ha : a < 4294967296) (hb : b < 4294967296) : bits .xor .u32 (a : Int) (b : Int) = ((a ^^^ b : Nat) : Int) := u32_xor_nat a b ha hb
theorem and32_1 (c : Nat) (h : c < 4294967296) : bits .and .u32 (c : Int) 1 = ((c % 2 : Nat) : Int) := by
  have := u32_and_nat c 1 h (by omega)
  rw [Nat.and_one_is_mod] at this
  exact this
theorem and32_all : bits .and .u32 2197175160 4294967295 = 2197175160 := by decide +kernel
theorem and32_none : bits .and .u32 2197175160 0 = 0 := by decide +kernel
theorem stp_odd (c : Nat) (h : c < 4294967296) (h1 : c % 2 = 1) : bits .xor .u32 ((c : Int) / 2) 2197175160 = ((stp c : Nat) : Int) := by
  have := xor32 (c / 2) PL (by omega) (by decide)
  unfold stp; rw [if_pos h1, ← this]; rfl
theorem stp_even (c : Nat) (h : c < 4294967296) (h1 : ¬ c % 2 = 1) : bits .xor .u32 ((c : Int) / 2) 0 = ((stp c : Nat) : Int) := by
  have := xor32 (c / 2) 0 (by omega) (by decide)
  unfold stp; rw [if_neg h1]; rw [Nat.xor_zero] at this; rw [← this]; rfl
def zs32 : Array Value := Array.replicate 256 (.int .u32 0)
theorem zero32 (w : World) : (zeroValue 214).run Tryz.prog w = .ok (.agg zs32) w := by kernel_rfl
def tabF (k : Nat) : Nat → Value := fun i => if i < k then .int .u32 (stpn 8 i : Nat) else .int .u32 0
theorem tabF_step (k i : Nat) : (if i = k then .int .u32 (stpn 8 k : Nat) else tabF k i) = tabF (k + 1) i := by
  unfold tabF
  by_cases e : i = k
  · subst e; rw [if_pos rfl, if_pos (by omega)]
  · rw [if_neg e]
    by_cases h : i < k
    · rw [if_pos h, if_pos (by omega)]
    · rw [if_neg h, if_neg (by omega)]
def CTab (w : World) (k : Nat) (wr : World) : Prop := wr.rowIs w.heap.size 214 256 (tabF k) ∧ Below w.heap.size w wr ∧ wr.heap.size = w.heap.size + 1
set_option maxRecDepth 100000 in
set_option maxHeartbeats 1000000 in
theorem table_any (w : World) :
    Calls Tryz.prog 116 #[] w fun e w' => e = .returned (.pointer (some ⟨w.heap.size, 0, none⟩)) ∧ w'.rowIs w.heap.size 214 256 (fun i => .int .u32 (stpn 8 i : Nat)) ∧ Below w.heap.size w w' ∧ w'.heap.size = w.heap.size + 1 := by
  have hz := zero32
  go_enter Tryz.func116, Tryz.ntmps116
  go_wp2
  clear hz
  have hst : CTab w 0 (w.alloc (.cells zs32 214)) := by
    refine ⟨?_, (Below.refl _ _).alloc (Nat.le_refl _) _, by simp⟩
    have := World.rowIs_alloc w zs32 214 (tabF 0) (fun i hi => by
      have : i < 256 := by simpa [zs32] using hi
      unfold zs32 tabF
      rw [Array.getElem?_replicate, if_pos this, if_neg (by omega)])
    simpa [zs32] using this
  go_loopw [6] (fun vi wr => ∃ k : Nat, k ≤ 256 ∧ vi = .int .i64 k ∧ CTab w k wr) (fun vi _ => 256 - (intOf vi).toNat)
  case atStart => exact ⟨0, by omega, rfl, hst⟩
  case round =>
    clear hst
    obtain ⟨k, hk, rfl, hR, hB, hS⟩ := hrel
    by_cases hlt : k < 256
    · have f4 := hR.cell hlt
      have f5 := hR.frozen k
      have HR := Lib.hid hR
      clear hR
      go_wp2
      go_loop [3, 11] (fun vc vj => ∃ j : Nat, j ≤ 8 ∧ vj = .int .i64 j ∧ vc = .int .u32 (stpn j k : Nat)) (fun _ vj => 8 - (intOf vj).toNat)
      case atStart => exact ⟨0, by omega, rfl, rfl⟩
      case round =>
        obtain ⟨j, hj, rfl, rfl⟩ := hrel
        have hc : stpn j k < 4294967296 := stpn_lt j (by omega)
        obtain ⟨c, ec⟩ : ∃ c, stpn j k = c := ⟨_, rfl⟩
        have e2 : stpn (j + 1) k = stp c := by rw [← ec]; rfl
        rw [ec] at hc ⊢
        have E2 := Lib.hid e2
        by_cases hj8 : j < 8
        · clear ec e2
          have a1 := and32_1 c hc
          by_cases h1 : c % 2 = 1
          · have a2 := and32_all
            have a3 := stp_odd c hc h1
            rw [h1] at a1
            have H1 := Lib.hid h1
            clear h1
            go_wp2
            exact ⟨⟨j + 1, by omega, by go_num, by rw [E2.out]⟩, by simp [intOf]; omega⟩
          · have a2 := and32_none
            have a3 := stp_even c hc h1
            rw [show c % 2 = 0 from by omega] at a1
            have H1 := Lib.hid h1
            clear h1
            go_wp2
            exact ⟨⟨j + 1, by omega, by go_num, by rw [E2.out]⟩, by simp [intOf]; omega⟩
        · obtain rfl : j = 8 := by omega
          have EC := Lib.hid ec
          clear ec e2 E2
          go_wp2
          refine ⟨⟨k + 1, by omega, by go_num, ?_, hB.setCell (by simp) _, by simpa using hS⟩, by simp [intOf]; omega⟩
          rw [← EC.out]
          exact (HR.out.set k _).congr fun i _ => tabF_step k i
    · obtain rfl : k = 256 := by omega
      go_wp2
      go_ret
      exact ⟨rfl, hR.congr fun i hi => by unfold tabF; rw [if_pos hi], hB, hS⟩
theorem not32 (c : Nat) (h : c < 4294967296) : bits .xor .u32 IntKind.u32.max (c : Int) = ((4294967295 ^^^ c : Nat) : Int) := by
  have := xor32 4294967295 c (by decide) h
  rw [show IntKind.u32.max = 4294967295 from by decide]
  exact this
theorem crcS_take (c : Nat) (xs : List Nat) (k : Nat) (h : k < xs.length) : crcS c (xs.take (k + 1)) = stpn 8 (crcS c (xs.take k) ^^^ xs.getD k 0) := by
  rw [take_snocD xs k h, crcS_snoc]
set_option maxRecDepth 100000 in
set_option maxHeartbeats 1000000 in
theorem crc_short (A : Option Addr) (cap n : Nat) (xs : List Nat) (w : World) (hx : Byt xs) (hn : xs.length = n) (hr : Reads w w.heap.size 1 A n (xs.map bv)) (hm : n < 64) :
    Calls Tryz.prog 86 #[.slice A n cap] w fun e w' => e = .returned (.int .u32 (crc xs : Nat)) ∧ w = w' := by
  have hmb : decide ((n : Int) < 64) = true := by simp; omega
  have HR := Lib.hid hr
  clear hr
  go_enter Tryz.func86, Tryz.ntmps86
  go_wp2
  go_loop [3, 14] (fun vc vi => ∃ k : Nat, k ≤ n ∧ vi = .int .i64 k ∧ vc = .int .u32 (crcS 4294967295 (xs.take k) : Nat)) (fun _ vi => n - (intOf vi).toNat)
  case atStart => exact ⟨0, by omega, rfl, rfl⟩
  case round =>
    obtain ⟨k, hk, rfl, rfl⟩ := hrel
    have hc0 := crcS_lt (xs.take k) (c := 4294967295) (by decide) (hx.take k)
    obtain ⟨c0, e0⟩ : ∃ c0, crcS 4294967295 (xs.take k) = c0 := ⟨_, rfl⟩
    by_cases hlt : k < n
    · obtain ⟨ad, rfl, hbl, hcell⟩ := HR.out.byteD hlt
      have hxb := hx.getD k
      have es := crcS_take 4294967295 xs k (by omega)
      obtain ⟨x, ex⟩ : ∃ x, xs.getD k 0 = x := ⟨_, rfl⟩
      rw [e0] at hc0 ⊢
      rw [e0, ex] at es
      rw [ex] at hcell hxb
      have hd : c0 ^^^ x < 4294967296 := xor_lt32 hc0 (by omega)
      have x1 := xor32 c0 x hc0 (by omega)
      obtain ⟨d, ed⟩ : ∃ d, c0 ^^^ x = d := ⟨_, rfl⟩
      rw [ed] at hd x1
      have ES := Lib.hid es
      have ED := Lib.hid ed
      clear es ed ex e0
      go_wp2
      go_loop [3, 22] (fun vc vj => ∃ j : Nat, j ≤ 8 ∧ vj = .int .i64 j ∧ vc = .int .u32 (stpn j d : Nat)) (fun _ vj => 8 - (intOf vj).toNat)
      case atStart => exact ⟨0, by omega, rfl, rfl⟩
      case round =>
        obtain ⟨j, hj, rfl, rfl⟩ := hrel
        have hc : stpn j d < 4294967296 := stpn_lt j hd
        obtain ⟨c, ec⟩ : ∃ c, stpn j d = c := ⟨_, rfl⟩
        have e2 : stpn (j + 1) d = stp c := by rw [← ec]; rfl
        rw [ec] at hc ⊢
        have E2 := Lib.hid e2
        by_cases hj8 : j < 8
        · clear ec e2
          have a1 := and32_1 c hc
          by_cases h1 : c % 2 = 1
          · have a2 := and32_all
            have a3 := stp_odd c hc h1
            rw [h1] at a1
            have H1 := Lib.hid h1
            clear h1
            go_wp2
            exact ⟨⟨j + 1, by omega, by go_num, by rw [E2.out]⟩, by simp [intOf]; omega⟩
          · have a2 := and32_none
            have a3 := stp_even c hc h1
            rw [show c % 2 = 0 from by omega] at a1
            have H1 := Lib.hid h1
            clear h1
            go_wp2
            exact ⟨⟨j + 1, by omega, by go_num, by rw [E2.out]⟩, by simp [intOf]; omega⟩
        · obtain rfl : j = 8 := by omega
          have EC := Lib.hid ec
          clear ec e2 E2
          go_wp2
          exact ⟨⟨k + 1, by omega, by go_num, by rw [ES.out, ED.out, EC.out]⟩, by simp [intOf]; omega⟩
    · obtain rfl : k = n := by omega
      rw [List.take_of_length_le (by omega)] at e0 hc0 ⊢
      have hc1 := not32 _ hc0
      rw [e0] at hc0 hc1 ⊢
      have E0 := Lib.hid e0
      clear e0
      go_wp2
      go_ret
      exact ⟨by unfold crc; rw [E0.out]; rfl, rfl⟩
set_option maxRecDepth 100000 in
set_option maxHeartbeats 1000000 in
theorem crc_long (A : Option Addr) (cap n : Nat) (xs : List Nat) (w : World) (hx : Byt xs) (hn : xs.length = n) (hr : Reads w w.heap.size 1 A n (xs.map bv)) (hm : 64 ≤ n) (hm2 : n ≤ maxLen) :
    Calls Tryz.prog 86 #[.slice A n cap] w fun e w' => e = .returned (.int .u32 (crc xs : Nat)) ∧ Below w.heap.size w w' := by
  have HR := Lib.hid hr
  clear hr
  unfold maxLen at hm2
  have hmb : decide ((n : Int) < 64) = false := by simp; omega
  go_enter Tryz.func86, Tryz.ntmps86
  go_wp2_with (go_at_call 116; refine (table_any _).mono ?_; rintro e w1 ⟨rfl, hT, hB, hS⟩)
  have HT := Lib.hid hT
  have HR1 := Lib.hid (HR.out.below hB)
  clear hT HR
  go_loop [3, 38] (fun vc vi => ∃ k : Nat, k ≤ n ∧ vi = .int .i64 k ∧ vc = .int .u32 (crcS 4294967295 (xs.take k) : Nat)) (fun _ vi => n - (intOf vi).toNat)
  case atStart => exact ⟨0, by omega, rfl, rfl⟩
  case round =>
    obtain ⟨k, hk, rfl, rfl⟩ := hrel
    have hc0 := crcS_lt (xs.take k) (c := 4294967295) (by decide) (hx.take k)
    obtain ⟨c0, e0⟩ : ∃ c0, crcS 4294967295 (xs.take k) = c0 := ⟨_, rfl⟩
    by_cases hlt : k < n
    · obtain ⟨ad, rfl, hbl, hcell⟩ := HR1.out.byteD hlt
      have hxb := hx.getD k
      have es := crcS_take 4294967295 xs k (by omega)
      obtain ⟨x, ex⟩ : ∃ x, xs.getD k 0 = x := ⟨_, rfl⟩
      rw [e0] at hc0 ⊢
      rw [e0, ex, ← by_table (by rw [← ex]; exact hxb)] at es
      rw [ex] at hcell hxb
      have x1 := u8_xor_nat (c0 % 256) x (by omega) hxb
      have hy : c0 % 256 ^^^ x < 256 := Nat.xor_lt_two_pow (n := 8) (by omega) hxb
      obtain ⟨y, ey⟩ : ∃ y, c0 % 256 ^^^ x = y := ⟨_, rfl⟩
      rw [ey] at es x1 hy
      have ft := HT.out.cell hy
      have x2 := xor32 (c0 / 256) (stpn 8 y) (by omega) (stpn_lt 8 (by omega))
      rw [← es] at x2
      have x3 : bits .xor .u8 ((c0 : Int) % 256) (x : Int) = (y : Int) := x1
      have x4 : bits .xor .u32 ((c0 : Int) / 256) ((stpn 8 y : Nat) : Int) = ((crcS 4294967295 (xs.take (k + 1)) : Nat) : Int) := x2
      clear x1 x2
      have ES := Lib.hid es
      clear es ex e0 ey
      go_wp2
      exact ⟨⟨k + 1, by omega, by go_num, rfl⟩, by simp [intOf]; omega⟩
    · obtain rfl : k = n := by omega
      rw [List.take_of_length_le (by omega)] at e0 hc0 ⊢
      have hc1 := not32 _ hc0
      rw [e0] at hc0 hc1 ⊢
      have E0 := Lib.hid e0
      clear e0
      go_wp2
      go_ret
      exact ⟨by unfold crc; rw [E0.out]; rfl, hB⟩
end Go.Proofs.YtlnneacgllhdhaaGreatDoor
end
section
namespace Go.Proofs.YtlnneacgllhdhaaGreatDoor
open Go.RowKit OctMath
set_option linter.unusedVariables false
theorem crc_any (A : Option Addr) (cap n : Nat) (xs : List Nat) (w : World) (hx : Byt xs) (hn : xs.length = n) (hr : Reads w w.heap.size 1 A n (xs.map bv)) (hm2 : n ≤ maxLen) :
    Calls Tryz.prog 86 #[.slice A n cap] w fun e w' => e = .returned (.int .u32 (crc xs : Nat)) ∧ Below w.heap.size w w' := by
  by_cases h : n < 64
  · exact (crc_short A cap n xs w hx hn hr h).mono fun e w' ⟨h1, h2⟩ => ⟨h1, h2 ▸ Below.refl _ _⟩
  · exact crc_long A cap n xs w hx hn hr (by omega) hm2
end Go.Proofs.YtlnneacgllhdhaaGreatDoor
end
section
namespace Go.Proofs.YtlnneacgllhdhaaGreatDoor
open Go.RowKit OctMath
set_option linter.unusedVariables false
/-- A slice of bytes that reads as a list; what was there stays. -/
def RetB (ys : List Nat) (w : World) (e : Ending) (w' : World) : Prop :=
  ∃ A n cap, e = .returned (.slice A n cap) ∧ Hid (Reads w' w'.heap.size 1 A n (ys.map bv)) ∧ Below w.heap.size w w' ∧ n ≤ cap ∧ cap ≤ maxLen
theorem RetS.toB {t : TypeId} {xs : List Value} {ys : List Nat} {w w' : World} {e : Ending} (h : RetS t xs w e w') (hx : xs = ys.map bv) : RetB ys w e w' := by
  subst hx
  obtain ⟨A, cap, rfl, hr, h1, h2, hb, _⟩ := h.open
  exact ⟨A, _, cap, rfl, Lib.hid hr, hb, h1, h2⟩
theorem reads_len {w : World} {B n : Nat} {A : Option Addr} {ys : List Nat} (h : Reads w B 1 A n (ys.map bv)) : n = ys.length := by simpa using h.1.symm
section
variable (A : Option Addr) (cap l : Nat) (xs : List Nat) (w : World) (hr : Hid (Reads w w.heap.size 1 A l (xs.map bv)))
include hr
theorem putnumB (n : Nat) (hn : n < 18446744073709551616) (hm : l ≤ 140737488351232) : Calls Tryz.prog 24 #[.slice A l cap, .int .u64 n] w (RetB (xs ++ putN n) w) :=
  (putnum_any A cap l n (xs.map bv) w hr.out (bv_one xs) hn hm).mono fun _ _ h => RetS.toB h (by simp)
theorem putintB (n : Int) (n1 : -9223372036854775808 ≤ n) (n2 : n ≤ 9223372036854775807) (hm : l ≤ 140737488351232) : Calls Tryz.prog 23 #[.slice A l cap, .int .i64 n] w (RetB (xs ++ putN (zz n)) w) :=
  (putint_any A cap l n (xs.map bv) w hr.out (bv_one xs) n1 n2 hm).mono fun _ _ h => RetS.toB h (by simp)
theorem putflagB (f : Bool) (hm : l ≤ 140737488351232) : Calls Tryz.prog 25 #[.slice A l cap, .bool f] w (RetB (xs ++ [f.toNat]) w) :=
  (putflag_any f A cap l (xs.map bv) w hr.out (bv_one xs) hm).mono fun _ _ h => RetS.toB h (by simp)
theorem putbytesB (B : Option Addr) (cap' m : Nat) (ys : List Nat) (hr' : Hid (Reads w w.heap.size 1 B m (ys.map bv))) (hm : l + m ≤ 140737488351000) : Calls Tryz.prog 29 #[.slice A l cap, .slice B m cap'] w (RetB (xs ++ (putN m ++ ys)) w) :=
  (putbytes_any A B cap cap' l m (xs.map bv) (ys.map bv) w hr.out (bv_one xs) hr'.out (bv_one ys) (by have := putN_len10 (n := m) (by omega); omega)).mono fun _ _ h => RetS.toB h (by simp)
end
def wordL (z : Nat) : List Nat := [z % 256, z / 256 % 256, z / 65536 % 256, z / 16777216]
theorem wordL_byt (z : Nat) (hz : z < 4294967296) : Byt (wordL z) := by
  intro x hx
  simp only [wordL, List.mem_cons, List.not_mem_nil, or_false] at hx
  omega
theorem word_row (w : World) (t : TypeId) (z : Nat) (cs : Array Value) (h : cs.toList = (wordL z).map bv) :
    RetB (wordL z) w (.returned (.slice (some ⟨w.heap.size, 0, none⟩) 4 4)) (w.alloc (.cells cs t)) := by
  have h1 := Reads.lit w t ((wordL z).map bv) 1 4 rfl
  rw [← h, Array.toArray_toList] at h1
  exact ⟨_, _, _, rfl, Lib.hid (by rw [← h]; exact h1.more (by simp)), (Below.refl _ _).alloc (Nat.le_refl _) _, Nat.le_refl _, by decide⟩
set_option maxRecDepth 100000 in
theorem word_any (z : Nat) (w : World) (hz : z < 4294967296) : Calls Tryz.prog 36 #[.int .u32 (z : Int)] w (RetB (wordL z) w) := by
  go_enter Tryz.func36, Tryz.ntmps36
  go_wp2
  go_ret
  exact word_row w _ z _ (by simp [wordL, bv])
end Go.Proofs.YtlnneacgllhdhaaGreatDoor
end
section
namespace Go.Proofs.YtlnneacgllhdhaaGreatDoor
open Go OctMath
set_option linter.unusedVariables false
set_option linter.unusedSimpArgs false
def wordN (l : List Nat) : Nat := l.getD 0 0 + 256 * l.getD 1 0 + 65536 * l.getD 2 0 + 16777216 * l.getD 3 0
theorem wordL_len (z : Nat) : (wordL z).length = 4 := rfl
theorem wordN_wordL {z : Nat} (hz : z < 4294967296) (r : List Nat) : wordN (wordL z ++ r) = z := by
  show z % 256 + 256 * (z / 256 % 256) + 65536 * (z / 65536 % 256) + 16777216 * (z / 16777216) = z
  omega
theorem crc_lt {xs : List Nat} (h : ∀ x ∈ xs, x < 256) : crc xs < 4294967296 := xor_lt32 (by decide) (crcS_lt xs (by decide) h)
/-- Bytes with their sum behind. -/
def seal_ (b : List Nat) : List Nat := b ++ wordL (crc b)
def fr (b : List Nat) : List Nat := seal_ (wordL b.length) ++ seal_ b
theorem fr_len (b : List Nat) : (fr b).length = b.length + 12 := by unfold fr seal_; simp only [List.length_append, wordL_len]; omega
/-- Bytes whose sum stands behind them: the error, the bytes, what stands behind. -/
def opn (bs : List Nat) (n : Nat) : Nat × List Nat × List Nat := if bs.length < n + 4 then (40, [], []) else if wordN (bs.drop n) = crc (bs.take n) then (0, bs.take n, bs.drop (n + 4)) else (61, [], [])
theorem opn_seal {b : List Nat} (hb : ∀ x ∈ b, x < 256) (r : List Nat) : opn (seal_ b ++ r) b.length = (0, b, r) := by
  have h0 : ¬ (seal_ b ++ r).length < b.length + 4 := by unfold seal_; simp only [List.length_append, wordL_len]; omega
  have e1 : (seal_ b ++ r).take b.length = b := by unfold seal_; rw [List.append_assoc, List.take_left]
  have e2 : (seal_ b ++ r).drop b.length = wordL (crc b) ++ r := by unfold seal_; rw [List.append_assoc, List.drop_left]
  have e3 : (seal_ b ++ r).drop (b.length + 4) = r := by
    have : (seal_ b).length = b.length + 4 := by unfold seal_; simp only [List.length_append, wordL_len]
    rw [← this, List.drop_left]
  unfold opn
  rw [if_neg h0, e1, e2, e3, wordN_wordL (crc_lt hb), if_pos rfl]
/-- A frame at the head of a stream: the error, its bytes. -/
def nxt (s : List Nat) : Nat × List Nat :=
  if (opn s 4).1 = 0 then (if 4194304 < wordN (opn s 4).2.1 then (60, []) else ((opn (opn s 4).2.2 (wordN (opn s 4).2.1)).1, (opn (opn s 4).2.2 (wordN (opn s 4).2.1)).2.1)) else ((opn s 4).1, [])
theorem wordL_byt' {n : Nat} (h : n ≤ 4194304) : ∀ x ∈ wordL n, x < 256 := wordL_byt n (by omega)
theorem opn_head {b : List Nat} (hl : b.length ≤ 4194304) (r : List Nat) : opn (fr b ++ r) 4 = (0, wordL b.length, seal_ b ++ r) := by
  have := opn_seal (wordL_byt' hl) (seal_ b ++ r)
  rw [wordL_len] at this
  unfold fr
  rw [List.append_assoc]
  exact this
theorem nxt_fr {b : List Nat} (hb : ∀ x ∈ b, x < 256) (hl : b.length ≤ 4194304) (r : List Nat) : nxt (fr b ++ r) = (0, b) := by
  have hw : wordN (wordL b.length) = b.length := by have := wordN_wordL (z := b.length) (by omega) []; rwa [List.append_nil] at this
  unfold nxt
  rw [opn_head hl]
  show (if (0 : Nat) = 0 then (if 4194304 < wordN (wordL b.length) then ((60 : Nat), ([] : List Nat)) else ((opn (seal_ b ++ r) (wordN (wordL b.length))).1, (opn (seal_ b ++ r) (wordN (wordL b.length))).2.1)) else (0, [])) = _
  rw [hw, if_pos rfl, if_neg (by omega), opn_seal hb]
theorem opn_short {bs : List Nat} {n : Nat} (h : bs.length < n + 4) : opn bs n = (40, [], []) := by unfold opn; rw [if_pos h]
/-! ### Turned bits -/
theorem bits_word (W : List Bool) : ∃ m, m < 2 ^ W.length ∧ bitsOf W.length m = W := by
  induction W with
  | nil => exact ⟨0, by simp, rfl⟩
  | cons b W ih =>
    obtain ⟨m, hm, e⟩ := ih
    refine ⟨2 * m + b.toNat, ?_, ?_⟩
    · rw [List.length_cons, Nat.pow_succ]; cases b <;> simp <;> omega
    · rw [List.length_cons, bitsOf_succ]
      have h1 : (2 * m + b.toNat) / 2 = m := by cases b <;> simp <;> omega
      have h2 : (2 * m + b.toNat).testBit 0 = b := by cases b <;> simp [Nat.testBit_zero] <;> omega
      rw [h1, h2, e]
/-- Bits of which only some among 32 neighbouring ones are on, and one is. -/
theorem burst_any (L : List Bool) (at_ : Nat) (h : ∀ i : Nat, L[i]? = some true → at_ ≤ i ∧ i < at_ + 32) (h1 : ∃ i : Nat, L[i]? = some true) : bitS 0 L ≠ 0 := by
  obtain ⟨i, hi⟩ := h1
  have hil := (List.getElem?_eq_some_iff.1 hi).1
  have hia := h i hi
  obtain ⟨W, hW⟩ : ∃ W, (L.drop at_).take 32 = W := ⟨_, rfl⟩
  have e : L = List.replicate at_ false ++ W ++ List.replicate (L.length - at_ - 32) false := by
    apply List.ext_getElem?
    intro j
    have hl : W.length = min 32 (L.length - at_) := by rw [← hW]; simp
    rw [List.append_assoc, List.getElem?_append]
    simp only [List.length_replicate]
    split
    · rename_i hj
      rw [List.getElem?_replicate, if_pos hj]
      have hjl : j < L.length := by omega
      rw [List.getElem?_eq_getElem hjl]
      congr 1
      cases hb : L[j] with
      | false => rfl
      | true => have := h j (by rw [List.getElem?_eq_getElem hjl, hb]); omega
    · rename_i hj
      rw [List.getElem?_append]
      split
      · rename_i hj2
        rw [← hW, List.getElem?_take, if_pos (by omega), List.getElem?_drop]
        congr 1; omega
      · rename_i hj2
        rw [List.getElem?_replicate]
        by_cases hjl : j < L.length
        · rw [if_pos (by omega), List.getElem?_eq_getElem hjl]
          congr 1
          cases hb : L[j] with
          | false => rfl
          | true => have := h j (by rw [List.getElem?_eq_getElem hjl, hb]); omega
        · rw [if_neg (by omega), List.getElem?_eq_none (by omega)]
  obtain ⟨m, hm, em⟩ := bits_word W
  have hWl : W.length ≤ 32 := by rw [← hW, List.length_take]; omega
  rw [e, ← em]
  refine burst at_ W.length _ m hWl hm (fun h0 => ?_)
  subst h0
  have hz : W[i - at_]? = some true := by
    rw [← hW, List.getElem?_take, if_pos (by omega), List.getElem?_drop, show at_ + (i - at_) = i by omega, hi]
  rw [← em, bitsOf, List.getElem?_map] at hz
  cases hr : (List.range W.length)[i - at_]? with
  | none => rw [hr] at hz; cases hz
  | some q => rw [hr] at hz; simp at hz
theorem bits_wordL {z : Nat} (hz : z < 4294967296) : bitsB (wordL z) = bitsOf 32 z := by
  apply List.ext_getElem?
  intro i
  by_cases hi : i < 32
  · rw [bitsB_get _ i (by rw [wordL_len]; omega), bitsOf, List.getElem?_map, List.getElem?_range hi]
    simp only [Option.map_some]
    congr 1
    have e0 : i = 8 * (i / 8) + i % 8 := by omega
    have h8 : i % 8 < 8 := Nat.mod_lt _ (by decide)
    have hk : i / 8 = 0 ∨ i / 8 = 1 ∨ i / 8 = 2 ∨ i / 8 = 3 := by omega
    rcases hk with hk | hk | hk | hk
    · rw [hk]
      show (z % 256).testBit (i % 8) = _
      rw [show (256 : Nat) = 2 ^ 8 from rfl, Nat.testBit_mod_two_pow]
      simp [h8]; congr 1; omega
    · rw [hk]
      show (z / 256 % 256).testBit (i % 8) = _
      rw [show (256 : Nat) = 2 ^ 8 from rfl, Nat.testBit_mod_two_pow, Nat.testBit_div_two_pow]
      simp [h8]; congr 1; omega
    · rw [hk]
      show (z / 65536 % 256).testBit (i % 8) = _
      rw [show (256 : Nat) = 2 ^ 8 from rfl, Nat.testBit_mod_two_pow, show (65536 : Nat) = 2 ^ 16 from rfl, Nat.testBit_div_two_pow]
      simp [h8]; congr 1; omega
    · rw [hk]
      show (z / 16777216).testBit (i % 8) = _
      rw [show (16777216 : Nat) = 2 ^ 24 from rfl, Nat.testBit_div_two_pow]
      congr 1; omega
  · rw [List.getElem?_eq_none (by rw [bitsB_len, wordL_len]; omega), List.getElem?_eq_none (by rw [bitsOf_len]; omega)]
theorem crcS_app (c : Nat) (a b : List Nat) : crcS c (a ++ b) = crcS (crcS c a) b := by simp [crcS]
/-- A sum behind its bytes leaves always the same. -/
theorem crcS_seal {b : List Nat} (hb : ∀ x ∈ b, x < 256) : crcS 4294967295 (seal_ b) = stpn 32 4294967295 := by
  have hc := crc_lt hb
  unfold seal_
  rw [crcS_app, crcS_bits _ _ (wordL_byt _ hc), bits_wordL hc, bitS_word 32 _ _ (by simpa using hc)]
  congr 1
  unfold crc
  rw [Nat.xor_comm 4294967295, ← Nat.xor_assoc, Nat.xor_self, Nat.zero_xor]
theorem wordL_of {Y : List Nat} (hl : Y.length = 4) (hb : ∀ x ∈ Y, x < 256) : wordL (wordN Y) = Y := by
  match Y, hl with
  | [a, b, c, d], _ =>
    have ha := hb a (by simp)
    have hb' := hb b (by simp)
    have hc := hb c (by simp)
    have hd := hb d (by simp)
    show [(a + 256 * b + 65536 * c + 16777216 * d) % 256, (a + 256 * b + 65536 * c + 16777216 * d) / 256 % 256, (a + 256 * b + 65536 * c + 16777216 * d) / 65536 % 256, (a + 256 * b + 65536 * c + 16777216 * d) / 16777216] = [a, b, c, d]
    congr 1
    · omega
    congr 1
    · omega
    congr 1
    · omega
    congr 1
    omega
theorem wordN_take (Y r : List Nat) (hl : Y.length = 4) : wordN (Y ++ r) = wordN Y := by
  match Y, hl with
  | [a, b, c, d], _ => rfl
theorem xorL_byt {a b : List Nat} (ha : ∀ x ∈ a, x < 256) (hb : ∀ x ∈ b, x < 256) : ∀ x ∈ xorL a b, x < 256 := by
  intro x hx
  unfold xorL at hx
  obtain ⟨i, hi, rfl⟩ := List.mem_iff_getElem.1 hx
  rw [List.getElem_zipWith]
  exact Nat.xor_lt_two_pow (n := 8) (ha _ (List.getElem_mem _)) (hb _ (List.getElem_mem _))
/-- Turned bytes with their sum are told. -/
theorem opn_turned {X D r : List Nat} (hX : ∀ x ∈ X, x < 256) (hl : D.length = X.length + 4) (hD : ∀ x ∈ D, x < 256) (hne : crcS 0 D ≠ 0) : (opn (xorL (seal_ X) D ++ r) X.length).1 ≠ 0 := by
  have hsl : (seal_ X).length = X.length + 4 := by unfold seal_; simp only [List.length_append, wordL_len]
  have hxl : (xorL (seal_ X) D).length = X.length + 4 := by rw [xorL_len _ _ (by omega), hsl]
  have hsb : ∀ x ∈ seal_ X, x < 256 := fun x hx => by
    rcases List.mem_append.1 hx with h | h
    · exact hX x h
    · exact wordL_byt _ (crc_lt hX) x h
  have hxb := xorL_byt hsb hD
  obtain ⟨Z, hZ⟩ : ∃ Z, xorL (seal_ X) D = Z := ⟨_, rfl⟩
  rw [hZ] at hxl hxb ⊢
  unfold opn
  rw [if_neg (by rw [List.length_append]; omega)]
  split
  · rename_i he
    exfalso
    have e1 : (Z ++ r).take X.length = Z.take X.length := by rw [List.take_append_of_le_length (by omega)]
    have e2 : (Z ++ r).drop X.length = Z.drop X.length ++ r := by rw [List.drop_append_of_le_length (by omega)]
    have hy : (Z.drop X.length).length = 4 := by rw [List.length_drop]; omega
    rw [e1, e2, wordN_take _ _ hy] at he
    have hyb : ∀ x ∈ Z.drop X.length, x < 256 := fun x hx => hxb x (List.mem_of_mem_drop hx)
    have hw := wordL_of hy hyb
    rw [he] at hw
    have hz : Z = seal_ (Z.take X.length) := by
      unfold seal_
      rw [hw, List.take_append_drop]
    have hs := crcS_seal (b := Z.take X.length) (fun x hx => hxb x (List.mem_of_mem_take hx))
    rw [← hz, ← hZ] at hs
    have h3 := crcS_xor (seal_ X) D 4294967295 0 (by omega)
    rw [Nat.xor_zero, crcS_seal hX] at h3
    unfold xorL at hs
    rw [hs] at h3
    apply hne
    have := congrArg (fun z => stpn 32 4294967295 ^^^ z) h3
    simpa [← Nat.xor_assoc, Nat.xor_self] using this.symm
  · simp
theorem crcS_dbits {D : List Nat} (hD : ∀ x ∈ D, x < 256) (at_ : Nat) (h : ∀ i, dbit D i = true → i < 8 * D.length → at_ ≤ i ∧ i < at_ + 32) (h1 : ∃ i, i < 8 * D.length ∧ dbit D i = true) : crcS 0 D ≠ 0 := by
  rw [crcS_bits _ _ hD]
  refine burst_any _ at_ (fun i hi => ?_) ?_
  · have hil := (List.getElem?_eq_some_iff.1 hi).1
    rw [bitsB_len] at hil
    rw [bitsB_get _ i hil] at hi
    exact h i (Option.some.inj hi) hil
  · obtain ⟨i, hi, e⟩ := h1
    exact ⟨i, by rw [bitsB_get _ i hi]; exact congrArg some e⟩
theorem xorL_app (a b c d : List Nat) (h : a.length = c.length) : xorL (a ++ b) (c ++ d) = xorL a c ++ xorL b d := by unfold xorL; exact List.zipWith_append h
theorem all_zero {D : List Nat} (hD : ∀ x ∈ D, x < 256) (h : ∀ i, i < 8 * D.length → dbit D i = false) : D = List.replicate D.length 0 := by
  apply List.ext_getElem (by simp)
  intro k hk hk2
  rw [List.getElem_replicate]
  apply Nat.eq_of_testBit_eq
  intro j
  rw [Nat.zero_testBit]
  by_cases hj : j < 8
  · have := h (8 * k + j) (by omega)
    unfold dbit at this
    rw [show (8 * k + j) / 8 = k by omega, show (8 * k + j) % 8 = j by omega, List.getD_eq_getElem?_getD, List.getElem?_eq_getElem hk] at this
    exact this
  · have hx := hD D[k] (List.getElem_mem _)
    exact Nat.testBit_lt_two_pow (Nat.lt_of_lt_of_le hx (Nat.pow_le_pow_right (n := 2) (by decide) (show 8 ≤ j by omega)))
/-- Turned bits of a frame are told. -/
theorem nxt_turned {b : List Nat} (hb : ∀ x ∈ b, x < 256) (hl : b.length ≤ 4194304) {at_ mask m : Nat} (hm : at_ + m ≤ 8 * (fr b).length) (h32 : m ≤ 32) (ht : turned mask m = true) : (nxt (turnL (fr b) at_ mask m)).1 ≠ 0 := by
  rw [turnL_xor]
  obtain ⟨D, hD⟩ : ∃ D, turnL (List.replicate (fr b).length 0) at_ mask m = D := ⟨_, rfl⟩
  have hDl : D.length = (fr b).length := by rw [← hD, turnL_len]; simp
  have hDb : ∀ x ∈ D, x < 256 := by rw [← hD]; exact turnL_byt (fun x hx => by have := List.eq_of_mem_replicate hx; omega) _ _ _
  have hbit : ∀ q, dbit D q = (decide (at_ ≤ q) && decide (q < at_ + m) && mask.testBit (q - at_)) := fun q => by rw [← hD]; exact turn_bit _ _ _ _ hm q
  rw [hD]
  rw [fr_len] at hDl hm
  have hex : ∃ q, q < 8 * D.length ∧ dbit D q = true := by
    have h0 := (turned_iff mask m).1 ht
    obtain ⟨j, hj⟩ : ∃ j, (mask % 2 ^ m).testBit j = true := Nat.exists_testBit_of_ne_zero h0
    rw [Nat.testBit_mod_two_pow] at hj
    simp only [Bool.and_eq_true, decide_eq_true_eq] at hj
    refine ⟨at_ + j, by omega, ?_⟩
    rw [hbit]
    simp only [Bool.and_eq_true, decide_eq_true_eq]
    exact ⟨by omega, by rw [show at_ + j - at_ = j by omega]; exact hj.2⟩
  have hwin : ∀ q, dbit D q = true → at_ ≤ q ∧ q < at_ + 32 := fun q hq => by
    rw [hbit] at hq
    simp only [Bool.and_eq_true, decide_eq_true_eq] at hq
    omega
  clear hbit ht hD
  have hsplit : D = D.take 8 ++ D.drop 8 := (List.take_append_drop 8 D).symm
  have h1l : (D.take 8).length = 8 := by rw [List.length_take]; omega
  have h2l : (D.drop 8).length = b.length + 4 := by rw [List.length_drop]; omega
  have hb1 : ∀ q, q < 64 → dbit (D.take 8) q = dbit D q := fun q hq => by unfold dbit; rw [List.getD_eq_getElem?_getD, List.getD_eq_getElem?_getD, List.getElem?_take, if_pos (by omega)]
  have hb2 : ∀ q, dbit (D.drop 8) q = dbit D (q + 64) := fun q => by unfold dbit; rw [List.getD_eq_getElem?_getD, List.getD_eq_getElem?_getD, List.getElem?_drop, show 8 + q / 8 = (q + 64) / 8 by omega, show q % 8 = (q + 64) % 8 by omega]
  have hD1 : ∀ x ∈ D.take 8, x < 256 := fun x hx => hDb x (List.mem_of_mem_take hx)
  have hD2 : ∀ x ∈ D.drop 8, x < 256 := fun x hx => hDb x (List.mem_of_mem_drop hx)
  have hs8 : (seal_ (wordL b.length)).length = 8 := rfl
  have hx : xorL (fr b) D = xorL (seal_ (wordL b.length)) (D.take 8) ++ xorL (seal_ b) (D.drop 8) := by
    have := xorL_app (seal_ (wordL b.length)) (seal_ b) (D.take 8) (D.drop 8) (by rw [hs8, h1l])
    rw [← hsplit] at this
    exact this
  rw [hx]
  by_cases hz : ∃ q, q < 64 ∧ dbit D q = true
  · obtain ⟨q, hq, hqb⟩ := hz
    have hc : crcS 0 (D.take 8) ≠ 0 := crcS_dbits hD1 at_ (fun i hi hi2 => by rw [h1l] at hi2; rw [hb1 i (by omega)] at hi; exact hwin i hi) ⟨q, by rw [h1l]; omega, by rw [hb1 q hq]; exact hqb⟩
    have ho := opn_turned (X := wordL b.length) (D := D.take 8) (r := xorL (seal_ b) (D.drop 8)) (wordL_byt' hl) (by rw [h1l]; rfl) hD1 hc
    rw [wordL_len] at ho
    unfold nxt
    rw [if_neg ho]
    exact ho
  · have hz1 : D.take 8 = List.replicate 8 0 := by
      have := all_zero hD1 (fun i hi => by
        rw [h1l] at hi
        rw [hb1 i (by omega)]
        cases e : dbit D i with
        | false => rfl
        | true => exact absurd ⟨i, by omega, e⟩ hz)
      rwa [h1l] at this
    obtain ⟨q, hq, hqb⟩ := hex
    have hq64 : 64 ≤ q := Nat.le_of_not_lt fun h => hz ⟨q, h, hqb⟩
    have hc : crcS 0 (D.drop 8) ≠ 0 := crcS_dbits hD2 (at_ - 64) (fun i hi _ => by rw [hb2] at hi; have := hwin _ hi; omega) ⟨q - 64, by rw [h2l]; omega, by rw [hb2, show q - 64 + 64 = q by omega]; exact hqb⟩
    have ho := opn_turned (X := b) (D := D.drop 8) (r := []) hb (by rw [h2l]) hD2 hc
    rw [List.append_nil] at ho
    have hx1 : xorL (seal_ (wordL b.length)) (D.take 8) = seal_ (wordL b.length) := by
      rw [hz1, ← hs8]; exact xorL_zero _
    rw [hx1]
    have h4 := opn_seal (wordL_byt' hl) (xorL (seal_ b) (D.drop 8))
    rw [wordL_len] at h4
    have hw : wordN (wordL b.length) = b.length := by have := wordN_wordL (z := b.length) (by omega) []; rwa [List.append_nil] at this
    unfold nxt
    rw [h4]
    show (if (0 : Nat) = 0 then (if 4194304 < wordN (wordL b.length) then ((60 : Nat), ([] : List Nat)) else ((opn (xorL (seal_ b) (D.drop 8)) (wordN (wordL b.length))).1, (opn (xorL (seal_ b) (D.drop 8)) (wordN (wordL b.length))).2.1)) else (0, [])).1 ≠ 0
    rw [hw, if_pos rfl, if_neg (by omega)]
    exact ho
end Go.Proofs.YtlnneacgllhdhaaGreatDoor
end
section
namespace Go.Proofs.YtlnneacgllhdhaaGreatDoor
open Go.RowKit OctMath
set_option linter.unusedVariables false
set_option linter.unusedSimpArgs false
/-- package errors' variable holds the handle of the type 'error'. -/
def GE (w : World) : Prop := w.cell? ⟨0, 0, none⟩ = some (.iface 216 (.agg #[.pointer (some ⟨1, 101, none⟩)]))
theorem GE.lt {w : World} (h : GE w) : 0 < w.heap.size := World.block_lt_of_cell? _ ⟨0, 0, none⟩ h
theorem GE.later {w w' : World} (h : GE w) (hb : Below w.heap.size w w') : GE w' := (hb.cell (p := ⟨0, 0, none⟩) h.lt).trans h
set_option maxRecDepth 100000 in
set_option maxHeartbeats 4000000 in
theorem wnumber_any (e : Int) (w : World) (hg : Hid (GE w)) : Calls Tryz.prog 38 #[.iface 125 (.int .i64 e)] w fun ev w' => ev = .returned (.int .i64 e) ∧ Below w.heap.size w w' := by
  have hb0 : Below w.heap.size w (w.alloc (.cells #[.int .i64 0] 125)) := (Below.refl _ _).alloc (Nat.le_refl _) _
  have hx : Blk (w.alloc (.cells #[.int .i64 0] 125)) w.heap.size 125 #[.int .i64 0] := Blk.new w _ _
  obtain ⟨w1, ew1⟩ : ∃ w1, w.alloc (.cells #[.int .i64 0] 125) = w1 := ⟨_, rfl⟩
  rw [ew1] at hb0 hx
  have HAS := Lib.hid (as_hit e ⟨w.heap.size, 0, none⟩ (.int .i64 0) w1 (hg.out.later hb0) (hx.cell 0) (hx.frozen 0))
  have HX := Lib.hid hx
  have HB := Lib.hid hb0
  clear hx hb0
  go_enter Tryz.func38, Tryz.ntmps38
  go_wp2_with (go_at_call 89; refine HAS.out.mono ?_; rintro ev w' ⟨rfl, hw⟩
               have h1 := ((HX.out.alloc (.cells #[.pointer (some ⟨w.heap.size, 0, none⟩)] 150)).alloc (.cells #[.pointer (some ⟨1, 150, none⟩), .pointer (some ⟨w1.heap.size, 0, none⟩), .int .u64 150] 192)).alloc (.cells #[.pointer (some ⟨1, 150, none⟩), .pointer (some ⟨w1.heap.size, 0, none⟩), .int .u64 150] 192) |>.alloc (.cells #[.int .i64 e] 125) |>.set_ 0 (.int .i64 e)
               have h2 := ((((HB.out.alloc HB.out.size (.cells #[.pointer (some ⟨w.heap.size, 0, none⟩)] 150)).alloc (by simp; have := HB.out.size; omega) (.cells #[.pointer (some ⟨1, 150, none⟩), .pointer (some ⟨w1.heap.size, 0, none⟩), .int .u64 150] 192)).alloc (by simp; have := HB.out.size; omega) (.cells #[.pointer (some ⟨1, 150, none⟩), .pointer (some ⟨w1.heap.size, 0, none⟩), .int .u64 150] 192)).alloc (by simp; have := HB.out.size; omega) (.cells #[.int .i64 e] 125)).trans ((Only.set_ _ w.heap.size 0 (.int .i64 e)).below (Nat.le_refl _))
               rw [hw] at h1 h2
               have c0 : w'.cell? ⟨w.heap.size, 0, none⟩ = some (.int .i64 e) := h1.cell 0
               have H2 := Lib.hid h2
               clear h1 h2 hw ew1)
  go_ret
  exact ⟨rfl, H2.out⟩
theorem ofInt_u32 (a : Nat) (h : a < 4294967296) : (BitVec.ofInt 32 (a : Int)).toNat = a := by
  rw [BitVec.toNat_ofInt]
  omega
theorem or_u32 (a b : Nat) (ha : a < 4294967296) (hb : b < 4294967296) : bits .or .u32 (a : Int) (b : Int) = ((a ||| b : Nat) : Int) := by
  show IntKind.u32.wrap ((BitVec.ofInt 32 (a : Int) ||| BitVec.ofInt 32 (b : Int)).toNat : Int) = _
  rw [BitVec.toNat_or, ofInt_u32 a ha, ofInt_u32 b hb]
  have h : a ||| b < 2 ^ 32 := Nat.or_lt_two_pow ha hb
  simp only [IntKind.wrap, IntKind.signed, IntKind.bits]
  simp
  omega
theorem or_step (x y k c : Nat) (hc : c = 2 ^ k) (hx : x < c) (hy : y * c < 4294967296 ∧ x < 4294967296) : bits .or .u32 (x : Int) ((y : Int) * (c : Int)) = ((x + y * c : Nat) : Int) := by
  have e : x ||| y * c = x + y * c := by
    subst hc
    have := Nat.two_pow_add_eq_or_of_lt (i := k) (b := x) hx y
    rw [Nat.or_comm, Nat.mul_comm y, ← this, Nat.add_comm]
  rw [show (y : Int) * (c : Int) = ((y * c : Nat) : Int) from by rw [Int.natCast_mul], or_u32 x (y * c) hy.2 hy.1, e]
set_option maxRecDepth 100000 in
set_option maxHeartbeats 4000000 in
theorem wword_any (A : Option Addr) (l cap : Nat) (xs : List Nat) (w : World) (hr : Hid (Reads w w.heap.size 1 A l (xs.map bv))) (hb : Byt xs) (h4 : 4 ≤ l) :
    Calls Tryz.prog 88 #[.slice A l cap] w fun ev w' => ev = .returned (.int .u32 (wordN xs : Int)) ∧ w.drew = w' := by
  have hl : xs.length = l := by simpa using hr.out.1
  obtain ⟨ad, hA, hlt, hc⟩ := hr.out.2 (by omega)
  subst hA
  have e : ∀ k, k < l → xs[k]? = some (xs.getD k 0) := fun k hk => by rw [List.getD_eq_getElem?_getD, List.getElem?_eq_getElem (by omega)]; rfl
  have g : ∀ k, k < l → w.cell? (ad.add k) = some (.int .u8 ((xs.getD k 0 : Nat) : Int)) := fun k hk => hc k _ (by rw [List.getElem?_map, e k hk]; rfl)
  have b : ∀ k, xs.getD k 0 < 256 := fun k => by
    rw [List.getD_eq_getElem?_getD]
    cases q : xs[k]? with
    | none => decide
    | some y => exact hb y (List.mem_of_getElem? q)
  have g0 := g 0 (by omega); have g1 := g 1 (by omega); have g2 := g 2 (by omega); have g3 := g 3 (by omega)
  rw [Addr.add_zero'] at g0
  rw [Addr.add_succ'] at g1 g2 g3
  have b0 := b 0; have b1 := b 1; have b2 := b 2; have b3 := b 3
  have HW := Lib.hid (show wordN xs = xs.getD 0 0 + 256 * xs.getD 1 0 + 65536 * xs.getD 2 0 + 16777216 * xs.getD 3 0 from rfl)
  generalize xs.getD 0 0 = a0 at *
  generalize xs.getD 1 0 = a1 at *
  generalize xs.getD 2 0 = a2 at *
  generalize xs.getD 3 0 = a3 at *
  have d0 : decide ((0 : Int) < (l : Int)) = true := decide_eq_true (by omega)
  have d1 : decide ((1 : Int) < (l : Int)) = true := decide_eq_true (by omega)
  have d2 : decide ((2 : Int) < (l : Int)) = true := decide_eq_true (by omega)
  have d3 : decide ((3 : Int) < (l : Int)) = true := decide_eq_true (by omega)
  clear e g b hc
  go_enter Tryz.func88, Tryz.ntmps88
  go_wp2_with fail
  go_region
  go_wp2
  go_ret
  refine ⟨?_, rfl⟩
  have e1 : bits .or .u32 (a0 : Int) ((a1 : Int) * 256) = ((a0 + a1 * 256 : Nat) : Int) := or_step a0 a1 8 256 rfl (by omega) (by omega)
  have e2 : bits .or .u32 ((a0 + a1 * 256 : Nat) : Int) ((a2 : Int) * 65536) = ((a0 + a1 * 256 + a2 * 65536 : Nat) : Int) := or_step _ a2 16 65536 rfl (by omega) (by omega)
  have e3 : bits .or .u32 ((a0 + a1 * 256 + a2 * 65536 : Nat) : Int) ((a3 : Int) * 16777216) = ((a0 + a1 * 256 + a2 * 65536 + a3 * 16777216 : Nat) : Int) := or_step _ a3 24 16777216 rfl (by omega) (by omega)
  show Ending.returned (.int .u32 (bits .or .u32 (bits .or .u32 (bits .or .u32 (a0 : Int) ((a1 : Int) * 256)) ((a2 : Int) * 65536)) ((a3 : Int) * 16777216))) = _
  rw [e1, e2, e3, HW.out]
  congr 2
  omega
end Go.Proofs.YtlnneacgllhdhaaGreatDoor
end
