/-
  The walks of the sum: the program's Crc (by steps, by the table) and the reference's: both are crc; The walk of the reference's sum; WHAT THE SECOND FORM's CONDITION GIVES: no slice and no string that comes in is longer than 1048576; The walks of Word and Flag; contracts that speak of rows of bytes alone; FRAMES as bytes: what is read of a stream, what a cut or turned bits make of it. Plain; number; word; More words for rows of bytes: a part of a row; opened, next: bytes whose sum stands behind them; a frame at the head of a stream. (joined out of OctW1, OctW2, Upto, OctW8, WirM, WirF1, Lib2, WirF2 by shake.py)
-/
import Derived.Lib.SlBytesConst
import Derived.Test.YtlnneacgllhdhaaGreatDoorWbk01
import Derived.Test.YtlnneacgllhdhaaGreatDoorWbk02
import Derived.Test.YtlnneacgllhdhaaGreatDoorWbk03
section
namespace Go.Proofs.YtlnneacgllhdhaaGreatDoor
open Go.RowKit OctMath
set_option linter.unusedVariables false
theorem xor32 (a b : Nat) (ha : a < 4294967296) (hb : b < 4294967296) : bits .xor .u32 (a : Int) (b : Int) = ((a ^^^ b : Nat) : Int) := u32_xor_nat a b ha hb
theorem and32_1 (c : Nat) (h : c < 4294967296) : bits .and .u32 (c : Int) 1 = ((c % 2 : Nat) : Int) := by
  have := u32_and_nat c 1 h (by omega)
  rw [Nat.and_one_is_mod] at this
  exact this
theorem and32_all : bits .and .u32 2197175160 4294967295 = 2197175160 := by decide +kernel
theorem and32_none : bits .and .u32 2197175160 0 = 0 := by decide +kernel
theorem stp_odd (c : Nat) (h : c < 4294967296) (h1 : c % 2 = 1) : bits .xor .u32 ((c : Int) / 2) 2197175160 = ((stp c : Nat) : Int) := by
  have := xor32 (c / 2) PL (by omega) (by decide)
  unfold stp; rw [if_pos h1, ← this]; rfl
theorem stp_even (c : Nat) (h : c < 4294967296) (h1 : ¬ c % 2 = 1) : bits .xor .u32 ((c : Int) / 2) 0 = ((stp c : Nat) : Int) := by
  have := xor32 (c / 2) 0 (by omega) (by decide)
  unfold stp; rw [if_neg h1]; rw [Nat.xor_zero] at this; rw [← this]; rfl
def zs32 : Array Value := Array.replicate 256 (.int .u32 0)
theorem zero32 (w : World) : (zeroValue 214).run Tryz.prog w = .ok (.agg zs32) w := by kernel_rfl
def tabF (k : Nat) : Nat → Value := fun i => if i < k then .int .u32 (stpn 8 i : Nat) else .int .u32 0
theorem tabF_step (k i : Nat) : (if i = k then .int .u32 (stpn 8 k : Nat) else tabF k i) = tabF (k + 1) i := by
  unfold tabF
  by_cases e : i = k
  · subst e; rw [if_pos rfl, if_pos (by omega)]
  · rw [if_neg e]
    by_cases h : i < k
    · rw [if_pos h, if_pos (by omega)]
    · rw [if_neg h, if_neg (by omega)]
def CTab (w : World) (k : Nat) (wr : World) : Prop := wr.rowIs w.heap.size 214 256 (tabF k) ∧ Below w.heap.size w wr ∧ wr.heap.size = w.heap.size + 1
set_option maxRecDepth 100000 in
set_option maxHeartbeats 1000000 in
theorem table_any (w : World) :
    Calls Tryz.prog 116 #[] w fun e w' => e = .returned (.pointer (some ⟨w.heap.size, 0, none⟩)) ∧ w'.rowIs w.heap.size 214 256 (fun i => .int .u32 (stpn 8 i : Nat)) ∧ Below w.heap.size w w' ∧ w'.heap.size = w.heap.size + 1 := by
  have hz := zero32
  go_enter Tryz.func116, Tryz.ntmps116
  go_wp2
  clear hz
  have hst : CTab w 0 (w.alloc (.cells zs32 214)) := by
    refine ⟨?_, (Below.refl _ _).alloc (Nat.le_refl _) _, by simp⟩
    have := World.rowIs_alloc w zs32 214 (tabF 0) (fun i hi => by
      have : i < 256 := by simpa [zs32] using hi
      unfold zs32 tabF
      rw [Array.getElem?_replicate, if_pos this, if_neg (by omega)])
    simpa [zs32] using this
  go_loopw [6] (fun vi wr => ∃ k : Nat, k ≤ 256 ∧ vi = .int .i64 k ∧ CTab w k wr) (fun vi _ => 256 - (intOf vi).toNat)
  case atStart => exact ⟨0, by omega, rfl, hst⟩
  case round =>
    clear hst
    obtain ⟨k, hk, rfl, hR, hB, hS⟩ := hrel
    by_cases hlt : k < 256
    · have f4 := hR.cell hlt
      have f5 := hR.frozen k
      have HR := Lib.hid hR
      clear hR
      go_wp2
      go_loop [3, 11] (fun vc vj => ∃ j : Nat, j ≤ 8 ∧ vj = .int .i64 j ∧ vc = .int .u32 (stpn j k : Nat)) (fun _ vj => 8 - (intOf vj).toNat)
      case atStart => exact ⟨0, by omega, rfl, rfl⟩
      case round =>
        obtain ⟨j, hj, rfl, rfl⟩ := hrel
        have hc : stpn j k < 4294967296 := stpn_lt j (by omega)
        obtain ⟨c, ec⟩ : ∃ c, stpn j k = c := ⟨_, rfl⟩
        have e2 : stpn (j + 1) k = stp c := by rw [← ec]; rfl
        rw [ec] at hc ⊢
        have E2 := Lib.hid e2
        by_cases hj8 : j < 8
        · clear ec e2
          have a1 := and32_1 c hc
          by_cases h1 : c % 2 = 1
          · have a2 := and32_all
            have a3 := stp_odd c hc h1
            rw [h1] at a1
            have H1 := Lib.hid h1
            clear h1
            go_wp2
            exact ⟨⟨j + 1, by omega, by go_num, by rw [E2.out]⟩, by simp [intOf]; omega⟩
          · have a2 := and32_none
            have a3 := stp_even c hc h1
            rw [show c % 2 = 0 from by omega] at a1
            have H1 := Lib.hid h1
            clear h1
            go_wp2
            exact ⟨⟨j + 1, by omega, by go_num, by rw [E2.out]⟩, by simp [intOf]; omega⟩
        · obtain rfl : j = 8 := by omega
          have EC := Lib.hid ec
          clear ec e2 E2
          go_wp2
          refine ⟨⟨k + 1, by omega, by go_num, ?_, hB.setCell (by simp) _, by simpa using hS⟩, by simp [intOf]; omega⟩
          rw [← EC.out]
          exact (HR.out.set k _).congr fun i _ => tabF_step k i
    · obtain rfl : k = 256 := by omega
      go_wp2
      go_ret
      exact ⟨rfl, hR.congr fun i hi => by unfold tabF; rw [if_pos hi], hB, hS⟩
theorem not32 (c : Nat) (h : c < 4294967296) : bits .xor .u32 IntKind.u32.max (c : Int) = ((4294967295 ^^^ c : Nat) : Int) := by
  have := xor32 4294967295 c (by decide) h
  rw [show IntKind.u32.max = 4294967295 from by decide]
  exact this
theorem crcS_take (c : Nat) (xs : List Nat) (k : Nat) (h : k < xs.length) : crcS c (xs.take (k + 1)) = stpn 8 (crcS c (xs.take k) ^^^ xs.getD k 0) := by
  rw [take_snocD xs k h, crcS_snoc]
set_option maxRecDepth 100000 in
set_option maxHeartbeats 1000000 in
theorem crc_short (A : Option Addr) (cap n : Nat) (xs : List Nat) (w : World) (hx : Byt xs) (hn : xs.length = n) (hr : Reads w w.heap.size 1 A n (xs.map bv)) (hm : n < 64) :
    Calls Tryz.prog 86 #[.slice A n cap] w fun e w' => e = .returned (.int .u32 (crc xs : Nat)) ∧ w = w' := by
  have hmb : decide ((n : Int) < 64) = true := by simp; omega
  have HR := Lib.hid hr
  clear hr
  go_enter Tryz.func86, Tryz.ntmps86
  go_wp2
  go_loop [3, 14] (fun vc vi => ∃ k : Nat, k ≤ n ∧ vi = .int .i64 k ∧ vc = .int .u32 (crcS 4294967295 (xs.take k) : Nat)) (fun _ vi => n - (intOf vi).toNat)
  case atStart => exact ⟨0, by omega, rfl, rfl⟩
  case round =>
    obtain ⟨k, hk, rfl, rfl⟩ := hrel
    have hc0 := crcS_lt (xs.take k) (c := 4294967295) (by decide) (hx.take k)
    obtain ⟨c0, e0⟩ : ∃ c0, crcS 4294967295 (xs.take k) = c0 := ⟨_, rfl⟩
    by_cases hlt : k < n
    · obtain ⟨ad, rfl, hbl, hcell⟩ := HR.out.byteD hlt
      have hxb := hx.getD k
      have es := crcS_take 4294967295 xs k (by omega)
      obtain ⟨x, ex⟩ : ∃ x, xs.getD k 0 = x := ⟨_, rfl⟩
      rw [e0] at hc0 ⊢
      rw [e0, ex] at es
      rw [ex] at hcell hxb
      have hd : c0 ^^^ x < 4294967296 := xor_lt32 hc0 (by omega)
      have x1 := xor32 c0 x hc0 (by omega)
      obtain ⟨d, ed⟩ : ∃ d, c0 ^^^ x = d := ⟨_, rfl⟩
      rw [ed] at hd x1
      have ES := Lib.hid es
      have ED := Lib.hid ed
      clear es ed ex e0
      go_wp2
      go_loop [3, 22] (fun vc vj => ∃ j : Nat, j ≤ 8 ∧ vj = .int .i64 j ∧ vc = .int .u32 (stpn j d : Nat)) (fun _ vj => 8 - (intOf vj).toNat)
      case atStart => exact ⟨0, by omega, rfl, rfl⟩
      case round =>
        obtain ⟨j, hj, rfl, rfl⟩ := hrel
        have hc : stpn j d < 4294967296 := stpn_lt j hd
        obtain ⟨c, ec⟩ : ∃ c, stpn j d = c := ⟨_, rfl⟩
        have e2 : stpn (j + 1) d = stp c := by rw [← ec]; rfl
        rw [ec] at hc ⊢
        have E2 := Lib.hid e2
        by_cases hj8 : j < 8
        · clear ec e2
          have a1 := and32_1 c hc
          by_cases h1 : c % 2 = 1
          · have a2 := and32_all
            have a3 := stp_odd c hc h1
            rw [h1] at a1
            have H1 := Lib.hid h1
            clear h1
            go_wp2
            exact ⟨⟨j + 1, by omega, by go_num, by rw [E2.out]⟩, by simp [intOf]; omega⟩
          · have a2 := and32_none
            have a3 := stp_even c hc h1
            rw [show c % 2 = 0 from by omega] at a1
            have H1 := Lib.hid h1
            clear h1
            go_wp2
            exact ⟨⟨j + 1, by omega, by go_num, by rw [E2.out]⟩, by simp [intOf]; omega⟩
        · obtain rfl : j = 8 := by omega
          have EC := Lib.hid ec
          clear ec e2 E2
          go_wp2
          exact ⟨⟨k + 1, by omega, by go_num, by rw [ES.out, ED.out, EC.out]⟩, by simp [intOf]; omega⟩
    · obtain rfl : k = n := by omega
      rw [List.take_of_length_le (by omega)] at e0 hc0 ⊢
      have hc1 := not32 _ hc0
      rw [e0] at hc0 hc1 ⊢
      have E0 := Lib.hid e0
      clear e0
      go_wp2
      go_ret
      exact ⟨by unfold crc; rw [E0.out]; rfl, rfl⟩
set_option maxRecDepth 100000 in
set_option maxHeartbeats 1000000 in
theorem crc_long (A : Option Addr) (cap n : Nat) (xs : List Nat) (w : World) (hx : Byt xs) (hn : xs.length = n) (hr : Reads w w.heap.size 1 A n (xs.map bv)) (hm : 64 ≤ n) (hm2 : n ≤ maxLen) :
    Calls Tryz.prog 86 #[.slice A n cap] w fun e w' => e = .returned (.int .u32 (crc xs : Nat)) ∧ Below w.heap.size w w' := by
  have HR := Lib.hid hr
  clear hr
  unfold maxLen at hm2
  have hmb : decide ((n : Int) < 64) = false := by simp; omega
  go_enter Tryz.func86, Tryz.ntmps86
  go_wp2_with (go_at_call 116; refine (table_any _).mono ?_; rintro e w1 ⟨rfl, hT, hB, hS⟩)
  have HT := Lib.hid hT
  have HR1 := Lib.hid (HR.out.below hB)
  clear hT HR
  go_loop [3, 38] (fun vc vi => ∃ k : Nat, k ≤ n ∧ vi = .int .i64 k ∧ vc = .int .u32 (crcS 4294967295 (xs.take k) : Nat)) (fun _ vi => n - (intOf vi).toNat)
  case atStart => exact ⟨0, by omega, rfl, rfl⟩
  case round =>
    obtain ⟨k, hk, rfl, rfl⟩ := hrel
    have hc0 := crcS_lt (xs.take k) (c := 4294967295) (by decide) (hx.take k)
    obtain ⟨c0, e0⟩ : ∃ c0, crcS 4294967295 (xs.take k) = c0 := ⟨_, rfl⟩
    by_cases hlt : k < n
    · obtain ⟨ad, rfl, hbl, hcell⟩ := HR1.out.byteD hlt
      have hxb := hx.getD k
      have es := crcS_take 4294967295 xs k (by omega)
      obtain ⟨x, ex⟩ : ∃ x, xs.getD k 0 = x := ⟨_, rfl⟩
      rw [e0] at hc0 ⊢
      rw [e0, ex, ← by_table (by rw [← ex]; exact hxb)] at es
      rw [ex] at hcell hxb
      have x1 := u8_xor_nat (c0 % 256) x (by omega) hxb
      have hy : c0 % 256 ^^^ x < 256 := Nat.xor_lt_two_pow (n := 8) (by omega) hxb
      obtain ⟨y, ey⟩ : ∃ y, c0 % 256 ^^^ x = y := ⟨_, rfl⟩
      rw [ey] at es x1 hy
      have ft := HT.out.cell hy
      have x2 := xor32 (c0 / 256) (stpn 8 y) (by omega) (stpn_lt 8 (by omega))
      rw [← es] at x2
      have x3 : bits .xor .u8 ((c0 : Int) % 256) (x : Int) = (y : Int) := x1
      have x4 : bits .xor .u32 ((c0 : Int) / 256) ((stpn 8 y : Nat) : Int) = ((crcS 4294967295 (xs.take (k + 1)) : Nat) : Int) := x2
      clear x1 x2
      have ES := Lib.hid es
      clear es ex e0 ey
      go_wp2
      exact ⟨⟨k + 1, by omega, by go_num, rfl⟩, by simp [intOf]; omega⟩
    · obtain rfl : k = n := by omega
      rw [List.take_of_length_le (by omega)] at e0 hc0 ⊢
      have hc1 := not32 _ hc0
      rw [e0] at hc0 hc1 ⊢
      have E0 := Lib.hid e0
      clear e0
      go_wp2
      go_ret
      exact ⟨by unfold crc; rw [E0.out]; rfl, hB⟩
end Go.Proofs.YtlnneacgllhdhaaGreatDoor
end
section
namespace Go.Proofs.YtlnneacgllhdhaaGreatDoor
open Go.RowKit OctMath
set_option linter.unusedVariables false
theorem crc_any (A : Option Addr) (cap n : Nat) (xs : List Nat) (w : World) (hx : Byt xs) (hn : xs.length = n) (hr : Reads w w.heap.size 1 A n (xs.map bv)) (hm2 : n ≤ maxLen) :
    Calls Tryz.prog 86 #[.slice A n cap] w fun e w' => e = .returned (.int .u32 (crc xs : Nat)) ∧ Below w.heap.size w w' := by
  by_cases h : n < 64
  · exact (crc_short A cap n xs w hx hn hr h).mono fun e w' ⟨h1, h2⟩ => ⟨h1, h2 ▸ Below.refl _ _⟩
  · exact crc_long A cap n xs w hx hn hr (by omega) hm2
end Go.Proofs.YtlnneacgllhdhaaGreatDoor
end
section
namespace Go.Proofs.YtlnneacgllhdhaaGreatDoor
open Go.RowKit Go.ChangeShapes
set_option linter.unusedVariables false
theorem bulk_lits {H : Type} (k : IntKind) (zs : List Int) : Rows.uptoBulkAll (lits (H := H) k zs) = zs.length := by
  unfold lits
  induction zs with
  | nil => simp [Rows.uptoBulkAll]
  | cons x a ih => simp only [List.map_cons, Rows.uptoBulkAll, Rows.uptoBulk, ih, List.length_cons]; omega
theorem ints_small {H : Type} {enc : TypeId × Value → H} {P : Program} {t e : TypeId} {k : IntKind} {w : World} {base : Nat} {sp : Nat → Bool} {held : Bool} {A : Option Addr} {len cap : Nat} {d : DataW H} {ps : List MemPlace}
    (ht : P.underlying t = some (.slice e)) (he : P.underlying e = some (.int k)) (hc : P.cellsOf e = 1) (h : DataW.Trod enc P w base sp held t (.slice A len cap) d ps)
    (hsz : Rows.uptoBulk d ≤ 1048576) : len ≤ 1048576 := by
  obtain ⟨fuel, hf⟩ := h
  rcases open_ints ht he hc hf with ⟨hcs, _⟩ | ⟨x, l, c, zs, hcs, _, hl, hm, hz, hx, hcell, hwz⟩
  · simp [Value.cells] at hcs
    obtain ⟨rfl, rfl, rfl⟩ := hcs
    omega
  · simp [Value.cells] at hcs
    obtain ⟨rfl, rfl, rfl⟩ := hcs
    have hz' : len ≤ zs.length := by
      have h1 : zs.length = if sp x.block = true then cap else len := by simpa using hz
      rw [h1]; split <;> omega
    have hd : d = .slice (lits k (zs.take len)) (lits k (zs.drop len)) := congrArg Prod.fst hx
    subst hd
    rw [Rows.uptoBulk, bulk_lits, bulk_lits, List.length_take, List.length_drop] at hsz
    omega
theorem str_small {H : Type} {s : ByteArray} (h : Rows.uptoBulk (H := H) (.lit (.string s.data.toList)) ≤ 1048576) : s.size ≤ 1048576 := by
  rw [Rows.uptoBulk, Array.length_toList] at h
  have : s.size = s.data.size := rfl
  omega
end Go.Proofs.YtlnneacgllhdhaaGreatDoor
end
section
namespace Go.Proofs.YtlnneacgllhdhaaGreatDoor
open Go.RowKit OctMath
set_option linter.unusedVariables false
/-- A slice of bytes that reads as a list; what was there stays. -/
def RetB (ys : List Nat) (w : World) (e : Ending) (w' : World) : Prop :=
  ∃ A n cap, e = .returned (.slice A n cap) ∧ Hid (Reads w' w'.heap.size 1 A n (ys.map bv)) ∧ Below w.heap.size w w' ∧ n ≤ cap ∧ cap ≤ maxLen
theorem RetS.toB {t : TypeId} {xs : List Value} {ys : List Nat} {w w' : World} {e : Ending} (h : RetS t xs w e w') (hx : xs = ys.map bv) : RetB ys w e w' := by
  subst hx
  obtain ⟨A, cap, rfl, hr, h1, h2, hb, _⟩ := h.open
  exact ⟨A, _, cap, rfl, Lib.hid hr, hb, h1, h2⟩
theorem reads_len {w : World} {B n : Nat} {A : Option Addr} {ys : List Nat} (h : Reads w B 1 A n (ys.map bv)) : n = ys.length := by simpa using h.1.symm
section
variable (A : Option Addr) (cap l : Nat) (xs : List Nat) (w : World) (hr : Hid (Reads w w.heap.size 1 A l (xs.map bv)))
include hr
theorem putnumB (n : Nat) (hn : n < 18446744073709551616) (hm : l ≤ 140737488351232) : Calls Tryz.prog 24 #[.slice A l cap, .int .u64 n] w (RetB (xs ++ putN n) w) :=
  (putnum_any A cap l n (xs.map bv) w hr.out (bv_one xs) hn hm).mono fun _ _ h => RetS.toB h (by simp)
theorem putintB (n : Int) (n1 : -9223372036854775808 ≤ n) (n2 : n ≤ 9223372036854775807) (hm : l ≤ 140737488351232) : Calls Tryz.prog 23 #[.slice A l cap, .int .i64 n] w (RetB (xs ++ putN (zz n)) w) :=
  (putint_any A cap l n (xs.map bv) w hr.out (bv_one xs) n1 n2 hm).mono fun _ _ h => RetS.toB h (by simp)
theorem putflagB (f : Bool) (hm : l ≤ 140737488351232) : Calls Tryz.prog 25 #[.slice A l cap, .bool f] w (RetB (xs ++ [f.toNat]) w) :=
  (putflag_any f A cap l (xs.map bv) w hr.out (bv_one xs) hm).mono fun _ _ h => RetS.toB h (by simp)
theorem putbytesB (B : Option Addr) (cap' m : Nat) (ys : List Nat) (hr' : Hid (Reads w w.heap.size 1 B m (ys.map bv))) (hm : l + m ≤ 140737488351000) : Calls Tryz.prog 29 #[.slice A l cap, .slice B m cap'] w (RetB (xs ++ (putN m ++ ys)) w) :=
  (putbytes_any A B cap cap' l m (xs.map bv) (ys.map bv) w hr.out (bv_one xs) hr'.out (bv_one ys) (by have := putN_len10 (n := m) (by omega); omega)).mono fun _ _ h => RetS.toB h (by simp)
end
def wordL (z : Nat) : List Nat := [z % 256, z / 256 % 256, z / 65536 % 256, z / 16777216]
theorem wordL_byt (z : Nat) (hz : z < 4294967296) : Byt (wordL z) := by
  intro x hx
  simp only [wordL, List.mem_cons, List.not_mem_nil, or_false] at hx
  omega
theorem word_row (w : World) (t : TypeId) (z : Nat) (cs : Array Value) (h : cs.toList = (wordL z).map bv) :
    RetB (wordL z) w (.returned (.slice (some ⟨w.heap.size, 0, none⟩) 4 4)) (w.alloc (.cells cs t)) := by
  have h1 := Reads.lit w t ((wordL z).map bv) 1 4 rfl
  rw [← h, Array.toArray_toList] at h1
  exact ⟨_, _, _, rfl, Lib.hid (by rw [← h]; exact h1.more (by simp)), (Below.refl _ _).alloc (Nat.le_refl _) _, Nat.le_refl _, by decide⟩
set_option maxRecDepth 100000 in
theorem word_any (z : Nat) (w : World) (hz : z < 4294967296) : Calls Tryz.prog 36 #[.int .u32 (z : Int)] w (RetB (wordL z) w) := by
  go_enter Tryz.func36, Tryz.ntmps36
  go_wp2
  go_ret
  exact word_row w _ z _ (by simp [wordL, bv])
end Go.Proofs.YtlnneacgllhdhaaGreatDoor
end
section
namespace Go.Proofs.YtlnneacgllhdhaaGreatDoor
open Go OctMath
set_option linter.unusedVariables false
set_option linter.unusedSimpArgs false
def wordN (l : List Nat) : Nat := l.getD 0 0 + 256 * l.getD 1 0 + 65536 * l.getD 2 0 + 16777216 * l.getD 3 0
theorem wordL_len (z : Nat) : (wordL z).length = 4 := rfl
theorem wordN_wordL {z : Nat} (hz : z < 4294967296) (r : List Nat) : wordN (wordL z ++ r) = z := by
  show z % 256 + 256 * (z / 256 % 256) + 65536 * (z / 65536 % 256) + 16777216 * (z / 16777216) = z
  omega
theorem crc_lt {xs : List Nat} (h : ∀ x ∈ xs, x < 256) : crc xs < 4294967296 := xor_lt32 (by decide) (crcS_lt xs (by decide) h)
/-- Bytes with their sum behind. -/
def seal_ (b : List Nat) : List Nat := b ++ wordL (crc b)
def fr (b : List Nat) : List Nat := seal_ (wordL b.length) ++ seal_ b
theorem fr_len (b : List Nat) : (fr b).length = b.length + 12 := by unfold fr seal_; simp only [List.length_append, wordL_len]; omega
/-- Bytes whose sum stands behind them: the error, the bytes, what stands behind. -/
def opn (bs : List Nat) (n : Nat) : Nat × List Nat × List Nat := if bs.length < n + 4 then (40, [], []) else if wordN (bs.drop n) = crc (bs.take n) then (0, bs.take n, bs.drop (n + 4)) else (61, [], [])
theorem opn_seal {b : List Nat} (hb : ∀ x ∈ b, x < 256) (r : List Nat) : opn (seal_ b ++ r) b.length = (0, b, r) := by
  have h0 : ¬ (seal_ b ++ r).length < b.length + 4 := by unfold seal_; simp only [List.length_append, wordL_len]; omega
  have e1 : (seal_ b ++ r).take b.length = b := by unfold seal_; rw [List.append_assoc, List.take_left]
  have e2 : (seal_ b ++ r).drop b.length = wordL (crc b) ++ r := by unfold seal_; rw [List.append_assoc, List.drop_left]
  have e3 : (seal_ b ++ r).drop (b.length + 4) = r := by
    have : (seal_ b).length = b.length + 4 := by unfold seal_; simp only [List.length_append, wordL_len]
    rw [← this, List.drop_left]
  unfold opn
  rw [if_neg h0, e1, e2, e3, wordN_wordL (crc_lt hb), if_pos rfl]
/-- A frame at the head of a stream: the error, its bytes. -/
def nxt (s : List Nat) : Nat × List Nat :=
  if (opn s 4).1 = 0 then (if 4194304 < wordN (opn s 4).2.1 then (60, []) else ((opn (opn s 4).2.2 (wordN (opn s 4).2.1)).1, (opn (opn s 4).2.2 (wordN (opn s 4).2.1)).2.1)) else ((opn s 4).1, [])
theorem wordL_byt' {n : Nat} (h : n ≤ 4194304) : ∀ x ∈ wordL n, x < 256 := wordL_byt n (by omega)
theorem opn_head {b : List Nat} (hl : b.length ≤ 4194304) (r : List Nat) : opn (fr b ++ r) 4 = (0, wordL b.length, seal_ b ++ r) := by
  have := opn_seal (wordL_byt' hl) (seal_ b ++ r)
  rw [wordL_len] at this
  unfold fr
  rw [List.append_assoc]
  exact this
theorem nxt_fr {b : List Nat} (hb : ∀ x ∈ b, x < 256) (hl : b.length ≤ 4194304) (r : List Nat) : nxt (fr b ++ r) = (0, b) := by
  have hw : wordN (wordL b.length) = b.length := by have := wordN_wordL (z := b.length) (by omega) []; rwa [List.append_nil] at this
  unfold nxt
  rw [opn_head hl]
  show (if (0 : Nat) = 0 then (if 4194304 < wordN (wordL b.length) then ((60 : Nat), ([] : List Nat)) else ((opn (seal_ b ++ r) (wordN (wordL b.length))).1, (opn (seal_ b ++ r) (wordN (wordL b.length))).2.1)) else (0, [])) = _
  rw [hw, if_pos rfl, if_neg (by omega), opn_seal hb]
theorem opn_short {bs : List Nat} {n : Nat} (h : bs.length < n + 4) : opn bs n = (40, [], []) := by unfold opn; rw [if_pos h]
/-- A frame that is cut off. -/
theorem nxt_cut {b : List Nat} (hb : ∀ x ∈ b, x < 256) (hl : b.length ≤ 4194304) {k : Nat} (hk : k < (fr b).length) : nxt ((fr b).take k) = (40, []) := by
  rw [fr_len] at hk
  by_cases h8 : k < 8
  · unfold nxt
    rw [opn_short (n := 4) (by rw [List.length_take]; omega)]
    simp
  · have e : (fr b).take k = seal_ (wordL b.length) ++ (seal_ b).take (k - 8) := by
      have hs : (seal_ (wordL b.length)).length = 8 := rfl
      unfold fr
      rw [List.take_append, hs, List.take_of_length_le (by rw [hs]; omega)]
    have ho := opn_seal (wordL_byt' hl) ((seal_ b).take (k - 8))
    rw [wordL_len] at ho
    have hw : wordN (wordL b.length) = b.length := by have := wordN_wordL (z := b.length) (by omega) []; rwa [List.append_nil] at this
    unfold nxt
    rw [e, ho]
    show (if (0 : Nat) = 0 then (if 4194304 < wordN (wordL b.length) then ((60 : Nat), ([] : List Nat)) else ((opn ((seal_ b).take (k - 8)) (wordN (wordL b.length))).1, (opn ((seal_ b).take (k - 8)) (wordN (wordL b.length))).2.1)) else (0, [])) = _
    rw [hw, if_pos rfl, if_neg (by omega), opn_short (by rw [List.length_take]; omega)]
/-! ### Turned bits -/
end Go.Proofs.YtlnneacgllhdhaaGreatDoor
end
section
namespace Go.Proofs.YtlnneacgllhdhaaGreatDoor
open Go.RowKit OctMath
set_option linter.unusedVariables false
set_option linter.unusedSimpArgs false
/-- package errors' variable holds the handle of the type 'error'. -/
def GE (w : World) : Prop := w.cell? ⟨0, 0, none⟩ = some (.iface 216 (.agg #[.pointer (some ⟨1, 101, none⟩)]))
theorem GE.lt {w : World} (h : GE w) : 0 < w.heap.size := World.block_lt_of_cell? _ ⟨0, 0, none⟩ h
theorem GE.later {w w' : World} (h : GE w) (hb : Below w.heap.size w w') : GE w' := (hb.cell (p := ⟨0, 0, none⟩) h.lt).trans h
set_option maxRecDepth 100000 in
set_option maxHeartbeats 4000000 in
theorem wnumber_any (e : Int) (w : World) (hg : Hid (GE w)) : Calls Tryz.prog 38 #[.iface 125 (.int .i64 e)] w fun ev w' => ev = .returned (.int .i64 e) ∧ Below w.heap.size w w' := by
  have hb0 : Below w.heap.size w (w.alloc (.cells #[.int .i64 0] 125)) := (Below.refl _ _).alloc (Nat.le_refl _) _
  have hx : Blk (w.alloc (.cells #[.int .i64 0] 125)) w.heap.size 125 #[.int .i64 0] := Blk.new w _ _
  obtain ⟨w1, ew1⟩ : ∃ w1, w.alloc (.cells #[.int .i64 0] 125) = w1 := ⟨_, rfl⟩
  rw [ew1] at hb0 hx
  have HAS := Lib.hid (as_hit e ⟨w.heap.size, 0, none⟩ (.int .i64 0) w1 (hg.out.later hb0) (hx.cell 0) (hx.frozen 0))
  have HX := Lib.hid hx
  have HB := Lib.hid hb0
  clear hx hb0
  go_enter Tryz.func38, Tryz.ntmps38
  go_wp2_with (go_at_call 89; refine HAS.out.mono ?_; rintro ev w' ⟨rfl, hw⟩
               have h1 := ((HX.out.alloc (.cells #[.pointer (some ⟨w.heap.size, 0, none⟩)] 150)).alloc (.cells #[.pointer (some ⟨1, 150, none⟩), .pointer (some ⟨w1.heap.size, 0, none⟩), .int .u64 150] 192)).alloc (.cells #[.pointer (some ⟨1, 150, none⟩), .pointer (some ⟨w1.heap.size, 0, none⟩), .int .u64 150] 192) |>.alloc (.cells #[.int .i64 e] 125) |>.set_ 0 (.int .i64 e)
               have h2 := ((((HB.out.alloc HB.out.size (.cells #[.pointer (some ⟨w.heap.size, 0, none⟩)] 150)).alloc (by simp; have := HB.out.size; omega) (.cells #[.pointer (some ⟨1, 150, none⟩), .pointer (some ⟨w1.heap.size, 0, none⟩), .int .u64 150] 192)).alloc (by simp; have := HB.out.size; omega) (.cells #[.pointer (some ⟨1, 150, none⟩), .pointer (some ⟨w1.heap.size, 0, none⟩), .int .u64 150] 192)).alloc (by simp; have := HB.out.size; omega) (.cells #[.int .i64 e] 125)).trans ((Only.set_ _ w.heap.size 0 (.int .i64 e)).below (Nat.le_refl _))
               rw [hw] at h1 h2
               have c0 : w'.cell? ⟨w.heap.size, 0, none⟩ = some (.int .i64 e) := h1.cell 0
               have H2 := Lib.hid h2
               clear h1 h2 hw ew1)
  go_ret
  exact ⟨rfl, H2.out⟩
theorem ofInt_u32 (a : Nat) (h : a < 4294967296) : (BitVec.ofInt 32 (a : Int)).toNat = a := by
  rw [BitVec.toNat_ofInt]
  omega
theorem or_u32 (a b : Nat) (ha : a < 4294967296) (hb : b < 4294967296) : bits .or .u32 (a : Int) (b : Int) = ((a ||| b : Nat) : Int) := by
  show IntKind.u32.wrap ((BitVec.ofInt 32 (a : Int) ||| BitVec.ofInt 32 (b : Int)).toNat : Int) = _
  rw [BitVec.toNat_or, ofInt_u32 a ha, ofInt_u32 b hb]
  have h : a ||| b < 2 ^ 32 := Nat.or_lt_two_pow ha hb
  simp only [IntKind.wrap, IntKind.signed, IntKind.bits]
  simp
  omega
theorem or_step (x y k c : Nat) (hc : c = 2 ^ k) (hx : x < c) (hy : y * c < 4294967296 ∧ x < 4294967296) : bits .or .u32 (x : Int) ((y : Int) * (c : Int)) = ((x + y * c : Nat) : Int) := by
  have e : x ||| y * c = x + y * c := by
    subst hc
    have := Nat.two_pow_add_eq_or_of_lt (i := k) (b := x) hx y
    rw [Nat.or_comm, Nat.mul_comm y, ← this, Nat.add_comm]
  rw [show (y : Int) * (c : Int) = ((y * c : Nat) : Int) from by rw [Int.natCast_mul], or_u32 x (y * c) hy.2 hy.1, e]
set_option maxRecDepth 100000 in
set_option maxHeartbeats 4000000 in
theorem wword_any (A : Option Addr) (l cap : Nat) (xs : List Nat) (w : World) (hr : Hid (Reads w w.heap.size 1 A l (xs.map bv))) (hb : Byt xs) (h4 : 4 ≤ l) :
    Calls Tryz.prog 88 #[.slice A l cap] w fun ev w' => ev = .returned (.int .u32 (wordN xs : Int)) ∧ w.drew = w' := by
  have hl : xs.length = l := by simpa using hr.out.1
  obtain ⟨ad, hA, hlt, hc⟩ := hr.out.2 (by omega)
  subst hA
  have e : ∀ k, k < l → xs[k]? = some (xs.getD k 0) := fun k hk => by rw [List.getD_eq_getElem?_getD, List.getElem?_eq_getElem (by omega)]; rfl
  have g : ∀ k, k < l → w.cell? (ad.add k) = some (.int .u8 ((xs.getD k 0 : Nat) : Int)) := fun k hk => hc k _ (by rw [List.getElem?_map, e k hk]; rfl)
  have b : ∀ k, xs.getD k 0 < 256 := fun k => by
    rw [List.getD_eq_getElem?_getD]
    cases q : xs[k]? with
    | none => decide
    | some y => exact hb y (List.mem_of_getElem? q)
  have g0 := g 0 (by omega); have g1 := g 1 (by omega); have g2 := g 2 (by omega); have g3 := g 3 (by omega)
  rw [Addr.add_zero'] at g0
  rw [Addr.add_succ'] at g1 g2 g3
  have b0 := b 0; have b1 := b 1; have b2 := b 2; have b3 := b 3
  have HW := Lib.hid (show wordN xs = xs.getD 0 0 + 256 * xs.getD 1 0 + 65536 * xs.getD 2 0 + 16777216 * xs.getD 3 0 from rfl)
  generalize xs.getD 0 0 = a0 at *
  generalize xs.getD 1 0 = a1 at *
  generalize xs.getD 2 0 = a2 at *
  generalize xs.getD 3 0 = a3 at *
  have d0 : decide ((0 : Int) < (l : Int)) = true := decide_eq_true (by omega)
  have d1 : decide ((1 : Int) < (l : Int)) = true := decide_eq_true (by omega)
  have d2 : decide ((2 : Int) < (l : Int)) = true := decide_eq_true (by omega)
  have d3 : decide ((3 : Int) < (l : Int)) = true := decide_eq_true (by omega)
  clear e g b hc
  go_enter Tryz.func88, Tryz.ntmps88
  go_wp2_with fail
  go_region
  go_wp2
  go_ret
  refine ⟨?_, rfl⟩
  have e1 : bits .or .u32 (a0 : Int) ((a1 : Int) * 256) = ((a0 + a1 * 256 : Nat) : Int) := or_step a0 a1 8 256 rfl (by omega) (by omega)
  have e2 : bits .or .u32 ((a0 + a1 * 256 : Nat) : Int) ((a2 : Int) * 65536) = ((a0 + a1 * 256 + a2 * 65536 : Nat) : Int) := or_step _ a2 16 65536 rfl (by omega) (by omega)
  have e3 : bits .or .u32 ((a0 + a1 * 256 + a2 * 65536 : Nat) : Int) ((a3 : Int) * 16777216) = ((a0 + a1 * 256 + a2 * 65536 + a3 * 16777216 : Nat) : Int) := or_step _ a3 24 16777216 rfl (by omega) (by omega)
  show Ending.returned (.int .u32 (bits .or .u32 (bits .or .u32 (bits .or .u32 (a0 : Int) ((a1 : Int) * 256)) ((a2 : Int) * 65536)) ((a3 : Int) * 16777216))) = _
  rw [e1, e2, e3, HW.out]
  congr 2
  omega
end Go.Proofs.YtlnneacgllhdhaaGreatDoor
end
section
namespace Go.Proofs.YtlnneacgllhdhaaGreatDoor
open Go.RowKit
set_option linter.unusedVariables false
theorem Reads.first {w : World} {B n : Nat} {A : Option Addr} {xs : List Value} (h : Reads w B 1 A n xs) {k : Nat} (hk : k ≤ n) : Reads w B 1 A k (xs.take k) := by
  have hl : xs.length = n := by simpa using h.1
  refine ⟨by rw [List.length_take]; omega, fun h0 => ?_⟩
  obtain ⟨ad, rfl, hb, hc⟩ := h.2 (by omega)
  refine ⟨ad, rfl, hb, fun j u hu => hc j u ?_⟩
  rcases Nat.lt_or_ge j k with hj | hj
  · rw [List.getElem?_take_of_lt hj] at hu; exact hu
  · rw [List.getElem?_eq_none (by rw [List.length_take]; omega)] at hu; cases hu
end Go.Proofs.YtlnneacgllhdhaaGreatDoor
end
section
namespace Go.Proofs.YtlnneacgllhdhaaGreatDoor
open Go.RowKit OctMath
set_option linter.unusedVariables false
set_option linter.unusedSimpArgs false
theorem slice_tail {P : Program} {t e : TypeId} (ht : P.underlying t = some (.slice e)) (hi : (P.info? e).map (fun i => (i.zero, i.size, i.bytes)) = some (some (.int .u8 0), 1, 1)) {w : World} {B n cap : Nat} {A : Option Addr} {xs : List Nat} (h : Reads w B 1 A n (xs.map bv)) (j : Nat) (hj : j ≤ n) (hn : n ≤ cap) :
    ∃ A2, (∀ W : World, (Instr.sliceAt t (.slice A n cap) (some (.int .i64 (j : Int))) none none).run P W = .ok (.slice A2 (n - j) (cap - j)) W) ∧
      (∀ w' : World, Reads w' B 1 A n (xs.map bv) → Reads w' B 1 A2 (n - j) ((xs.drop j).map bv)) := by
  obtain ⟨i, hi, k2, k3, k4⟩ := info_parts hi
  refine ⟨if cap = j then A else A.map (·.add (j * 1)), fun W => slice_from ht hi k3 A n cap j hj hn W, fun w' h' => ?_⟩
  have hc := h'.cut (k := j) (by omega) hn
  rw [Nat.mul_one, ← List.map_drop] at hc
  rw [Nat.mul_one]
  exact hc
theorem slice_top {P : Program} {t e : TypeId} (ht : P.underlying t = some (.slice e)) (hi : (P.info? e).map (fun i => (i.zero, i.size, i.bytes)) = some (some (.int .u8 0), 1, 1)) (A : Option Addr) (n cap k : Nat) (hk : k ≤ cap) (W : World) :
    (Instr.sliceAt t (.slice A n cap) none (some (.int .i64 (k : Int))) (some (.int .i64 (k : Int)))).run P W = .ok (.slice A k k) W := by
  obtain ⟨i, hi, k2, k3, k4⟩ := info_parts hi
  have e1 : 0 ≤ (k : Int) ∧ (k : Int) ≤ cap := by omega
  have e2 : (if k = 0 then A else A.map (·.add 0)) = A := by
    split
    · rfl
    · cases A with
      | none => rfl
      | some a => show some (a.add 0) = some a; rw [Addr.add_zero']
  simp [Instr.sliceAt, run_underlying ht, Instr.slice, Instr.sliceBounds, Instr.sliceBound, asIntOf, sizeOf, typeInfo, hi, k3, e1]
  rw [if_pos hk, e2]
/-- A row of bytes. -/
def RdB (w : World) (A : Option Addr) (l cap : Nat) (xs : List Nat) : Prop := Reads w w.heap.size 1 A l (xs.map bv) ∧ Byt xs ∧ l ≤ cap ∧ cap ≤ maxLen
theorem RdB.later {w w' : World} {A : Option Addr} {l cap : Nat} {xs : List Nat} (h : RdB w A l cap xs) (hb : Below w.heap.size w w') : RdB w' A l cap xs := ⟨h.1.later hb, h.2⟩
theorem RdB.len {w : World} {A : Option Addr} {l cap : Nat} {xs : List Nat} (h : RdB w A l cap xs) : xs.length = l := by simpa using h.1.1
def RetOpn (xs : List Nat) (n : Nat) (w : World) (e : Ending) (w' : World) : Prop := Below w.heap.size w w' ∧
  (((opn xs n).1 ≠ 0 ∧ e = .returned (.tuple #[.slice none 0 0, .slice none 0 0, .iface 125 (.int .i64 ((opn xs n).1 : Int))])) ∨
   ((opn xs n).1 = 0 ∧ ∃ A1 c1 A2 l2 c2, e = .returned (.tuple #[.slice A1 n c1, .slice A2 l2 c2, .nilIface]) ∧ RdB w' A1 n c1 (xs.take n) ∧ RdB w' A2 l2 c2 (xs.drop (n + 4))))
set_option maxRecDepth 100000 in
set_option maxHeartbeats 4000000 in
theorem opened_any (A : Option Addr) (l cap : Nat) (xs : List Nat) (n : Nat) (w : World) (hr : Hid (RdB w A l cap xs)) (hn : n ≤ 4194304) :
    Calls Tryz.prog 87 #[.slice A l cap, .int .i64 (n : Int)] w (RetOpn xs n w) := by
  have hl := hr.out.len
  have hcm := hr.out.2.2.2
  have hlc := hr.out.2.2.1
  unfold maxLen at hcm
  by_cases h1 : l < n + 4
  · have HE := Lib.hid (opn_short (bs := xs) (n := n) (by omega))
    have d1 : decide ((l : Int) - 4 < (n : Int)) = true := decide_eq_true (by omega)
    have d2 : decide ((l : Int) < (n : Int) + 4) = true := decide_eq_true (by omega)
    clear h1
    go_enter Tryz.func87, Tryz.ntmps87
    go_wp2
    go_ret3
    refine ⟨Below.refl _ _, .inl ?_⟩
    rw [HE.out]
    exact ⟨by decide, rfl⟩
  · have d1 : decide ((l : Int) - 4 < (n : Int)) = false := decide_eq_false (by omega)
    have d2 : decide ((l : Int) < (n : Int) + 4) = false := decide_eq_false (by omega)
    have HT := Lib.hid (slice_top Tryz.underlying33 Tryz.infoU8 A l cap n (by omega))
    have ht := HT.out
    obtain ⟨A2, hs2, hr2⟩ := slice_tail Tryz.underlying33 Tryz.infoU8 hr.out.1 n (by omega) hlc
    have hR2 := hr2 w hr.out.1
    have hb2 : Byt (xs.drop n) := fun x hx => hr.out.2.1 x (List.mem_of_mem_drop hx)
    have hb1 : Byt (xs.take n) := fun x hx => hr.out.2.1 x (List.mem_of_mem_take hx)
    have hR1 : Reads w w.heap.size 1 A n ((xs.take n).map bv) := by
      have := hr.out.1.first (k := n) (by omega)
      rw [← List.map_take] at this
      exact this
    have HW := Lib.hid (fun W h => wword_any A2 (l - n) (cap - n) (xs.drop n) W h hb2 (by omega))
    have HC := Lib.hid (fun W h => crc_any A n n (xs.take n) W hb1 (by rw [List.length_take]; omega) h (by unfold maxLen; omega))
    obtain ⟨A3, hs3, hr3⟩ := slice_tail (cap := cap - n) Tryz.underlying33 Tryz.infoU8 hR2 4 (by omega) (by omega)
    have hs4 : ∀ W : World, (Instr.sliceAt 33 (.slice A2 (l - n) (cap - n)) (some (.int .i64 4)) none none).run Tryz.prog W = .ok (.slice A3 (l - n - 4) (cap - n - 4)) W := hs3
    have HR1 := Lib.hid hR1
    have HR2 := Lib.hid hR2
    have HR3 := Lib.hid hr3
    have HB := Lib.hid (And.intro hb1 (And.intro hb2 hr.out.2.1))
    have HO := Lib.hid (show opn xs n = if wordN (xs.drop n) = crc (xs.take n) then (0, xs.take n, xs.drop (n + 4)) else (61, [], []) from by unfold opn; rw [if_neg (by omega)])
    have HL := Lib.hid (And.intro h1 (And.intro hlc hcm))
    clear hR1 hR2 hr2 hr3 hb1 hb2 hs3 h1
    by_cases hc : wordN (xs.drop n) = crc (xs.take n)
    · rw [if_pos hc] at HO
      have d3 : decide ((wordN (xs.drop n) : Int) ≠ (crc (xs.take n) : Int)) = false := by simp [hc]
      rw [hc] at HW
      clear hc d3
      go_enter Tryz.func87, Tryz.ntmps87
      go_wp2_with fail
      go_region
      go_wp2_with (first
        | (go_at_call 88; refine (HW.out _ (Lib.hid HR2.out.drew)).mono ?_; rintro ev w1 ⟨rfl, rfl⟩)
        | (go_at_call 86; refine (HC.out _ HR1.out.drew.drew).mono ?_; rintro ev w2 ⟨rfl, hb⟩; have HB2 := Lib.hid hb; clear hb))
      go_region
      go_wp2
      go_ret3
      have hB : Below w.heap.size w w2.drew := ((Below.refl _ _).drew.drew.trans HB2.out).drew
      refine ⟨hB, .inr ?_⟩
      rw [HO.out]
      have h3 := HR3.out w HR2.out
      rw [List.drop_drop] at h3
      exact ⟨rfl, A, n, A3, l - n - 4, cap - n - 4, rfl, ⟨HR1.out.later hB, HB.out.1, Nat.le_refl _, by unfold maxLen; omega⟩, ⟨h3.later hB, fun x hx => HB.out.2.2 x (List.mem_of_mem_drop hx), by have := HL.out; omega, by have := HL.out; unfold maxLen; omega⟩⟩
    · rw [if_neg hc] at HO
      have hne : (wordN (xs.drop n) : Int) ≠ (crc (xs.take n) : Int) := fun h => hc (by exact_mod_cast h)
      obtain ⟨c1, hc1⟩ : ∃ c, wordN (xs.drop n) = c := ⟨_, rfl⟩
      obtain ⟨c2, hc2⟩ : ∃ c, crc (xs.take n) = c := ⟨_, rfl⟩
      rw [hc1] at HW hne
      rw [hc2] at HC hne
      have d3 : ((c1 : Int) == (c2 : Int)) = false := by rw [beq_eq_false_iff_ne]; exact hne
      have d4 : ((c1 : Int) != (c2 : Int)) = true := by rw [bne, d3]; rfl
      have d5 : decide ((c1 : Int) = (c2 : Int)) = false := decide_eq_false hne
      have d6 : decide (c1 = c2) = false := decide_eq_false (fun h => hne (by rw [h]))
      have d7 : (c1 == c2) = false := by rw [beq_eq_false_iff_ne]; exact fun h => hne (by rw [h])
      clear hc hne hc1 hc2
      go_enter Tryz.func87, Tryz.ntmps87
      go_wp2_with fail
      go_region
      go_wp2_with (first
        | (go_at_call 88; refine (HW.out _ (Lib.hid HR2.out.drew)).mono ?_; rintro ev w1 ⟨rfl, rfl⟩)
        | (go_at_call 86; refine (HC.out _ HR1.out.drew.drew).mono ?_; rintro ev w2 ⟨rfl, hb⟩; have HB2 := Lib.hid hb; clear hb))
      go_ret3
      have hB : Below w.heap.size w w2 := (Below.refl _ _).drew.drew.trans HB2.out
      refine ⟨hB, .inl ?_⟩
      rw [HO.out]
      exact ⟨by decide, rfl⟩
end Go.Proofs.YtlnneacgllhdhaaGreatDoor
end
