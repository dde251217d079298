/-
  The walks of the sum: the program's Crc (by steps, by the table) and the reference's: both are crc; The walk of the reference's sum; WHAT THE SECOND FORM's CONDITION GIVES: no slice and no string that comes in is longer than 1048576; The walks of Word and Flag; contracts that speak of rows of bytes alone; FRAMES as bytes: what is read of a stream, what a cut or turned bits make of it. Plain; number; word; PLAIN LAWS: a number has one writing; what is put is read again. No program in sight; READING, in plain words: what is read of bytes at a place, and how far. (joined out of OctW1, OctW2, Upto, OctW8, WirM, WirF1, OctOneM, PaMath by shake.py)
-/
import Derived.Lib.SlBytesConst
import Derived.Test.YtlnneacgllhdhaaGreatDoorWpv01
import Derived.Test.YtlnneacgllhdhaaGreatDoorWpv02
import Derived.Test.YtlnneacgllhdhaaGreatDoorWpv03
section
namespace Go.Proofs.YtlnneacgllhdhaaGreatDoor
open Go.RowKit OctMath
set_option linter.unusedVariables false
theorem xor32 (a b : Nat) (ha : a < 4294967296) (hb : b < 4294967296) : bits .xor .u32 (a : Int) (b : Int) = ((a ^^^ b : Nat) : Int) := u32_xor_nat a b ha hb
theorem and32_1 (c : Nat) (h : c < 4294967296) : bits .and .u32 (c : Int) 1 = ((c % 2 : Nat) : Int) := by
  have := u32_and_nat c 1 h (by omega)
  rw [Nat.and_one_is_mod] at this
  exact this
theorem and32_all : bits .and .u32 2197175160 4294967295 = 2197175160 := by decide +kernel
theorem and32_none : bits .and .u32 2197175160 0 = 0 := by decide +kernel
theorem stp_odd (c : Nat) (h : c < 4294967296) (h1 : c % 2 = 1) : bits .xor .u32 ((c : Int) / 2) 2197175160 = ((stp c : Nat) : Int) := by
  have := xor32 (c / 2) PL (by omega) (by decide)
  unfold stp; rw [if_pos h1, ← this]; rfl
theorem stp_even (c : Nat) (h : c < 4294967296) (h1 : ¬ c % 2 = 1) : bits .xor .u32 ((c : Int) / 2) 0 = ((stp c : Nat) : Int) := by
  have := xor32 (c / 2) 0 (by omega) (by decide)
  unfold stp; rw [if_neg h1]; rw [Nat.xor_zero] at this; rw [← this]; rfl
def zs32 : Array Value := Array.replicate 256 (.int .u32 0)
theorem zero32 (w : World) : (zeroValue 214).run Tryz.prog w = .ok (.agg zs32) w := by kernel_rfl
def tabF (k : Nat) : Nat → Value := fun i => if i < k then .int .u32 (stpn 8 i : Nat) else .int .u32 0
theorem tabF_step (k i : Nat) : (if i = k then .int .u32 (stpn 8 k : Nat) else tabF k i) = tabF (k + 1) i := by
  unfold tabF
  by_cases e : i = k
  · subst e; rw [if_pos rfl, if_pos (by omega)]
  · rw [if_neg e]
    by_cases h : i < k
    · rw [if_pos h, if_pos (by omega)]
    · rw [if_neg h, if_neg (by omega)]
def CTab (w : World) (k : Nat) (wr : World) : Prop := wr.rowIs w.heap.size 214 256 (tabF k) ∧ Below w.heap.size w wr ∧ wr.heap.size = w.heap.size + 1
set_option maxRecDepth 100000 in
set_option maxHeartbeats 1000000 in
theorem table_any (w : World) :
    Calls Tryz.prog 116 #[] w fun e w' => e = .returned (.pointer (some ⟨w.heap.size, 0, none⟩)) ∧ w'.rowIs w.heap.size 214 256 (fun i => .int .u32 (stpn 8 i : Nat)) ∧ Below w.heap.size w w' ∧ w'.heap.size = w.heap.size + 1 := by
  have hz := zero32
  go_enter Tryz.func116, Tryz.ntmps116
  go_wp2
  clear hz
  have hst : CTab w 0 (w.alloc (.cells zs32 214)) := by
    refine ⟨?_, (Below.refl _ _).alloc (Nat.le_refl _) _, by simp⟩
    have := World.rowIs_alloc w zs32 214 (tabF 0) (fun i hi => by
      have : i < 256 := by simpa [zs32] using hi
      unfold zs32 tabF
      rw [Array.getElem?_replicate, if_pos this, if_neg (by omega)])
    simpa [zs32] using this
  go_loopw [6] (fun vi wr => ∃ k : Nat, k ≤ 256 ∧ vi = .int .i64 k ∧ CTab w k wr) (fun vi _ => 256 - (intOf vi).toNat)
  case atStart => exact ⟨0, by omega, rfl, hst⟩
  case round =>
    clear hst
    obtain ⟨k, hk, rfl, hR, hB, hS⟩ := hrel
    by_cases hlt : k < 256
    · have f4 := hR.cell hlt
      have f5 := hR.frozen k
      have HR := Lh hR
      clear hR
      go_wp2
      go_loop [3, 11] (fun vc vj => ∃ j : Nat, j ≤ 8 ∧ vj = .int .i64 j ∧ vc = .int .u32 (stpn j k : Nat)) (fun _ vj => 8 - (intOf vj).toNat)
      case atStart => exact ⟨0, by omega, rfl, rfl⟩
      case round =>
        obtain ⟨j, hj, rfl, rfl⟩ := hrel
        have hc : stpn j k < 4294967296 := stpn_lt j (by omega)
        obtain ⟨c, ec⟩ : ∃ c, stpn j k = c := ⟨_, rfl⟩
        have e2 : stpn (j + 1) k = stp c := by rw [← ec]; rfl
        rw [ec] at hc ⊢
        have E2 := Lh e2
        by_cases hj8 : j < 8
        · clear ec e2
          have a1 := and32_1 c hc
          by_cases h1 : c % 2 = 1
          · have a2 := and32_all
            have a3 := stp_odd c hc h1
            rw [h1] at a1
            have H1 := Lh h1
            clear h1
            go_wp2
            exact ⟨⟨j + 1, by omega, by go_num, by rw [E2.out]⟩, by simp [intOf]; omega⟩
          · have a2 := and32_none
            have a3 := stp_even c hc h1
            rw [show c % 2 = 0 from by omega] at a1
            have H1 := Lh h1
            clear h1
            go_wp2
            exact ⟨⟨j + 1, by omega, by go_num, by rw [E2.out]⟩, by simp [intOf]; omega⟩
        · obtain rfl : j = 8 := by omega
          have EC := Lh ec
          clear ec e2 E2
          go_wp2
          refine ⟨⟨k + 1, by omega, by go_num, ?_, hB.setCell (by simp) _, by simpa using hS⟩, by simp [intOf]; omega⟩
          rw [← EC.out]
          exact (HR.out.set k _).congr fun i _ => tabF_step k i
    · obtain rfl : k = 256 := by omega
      go_wp2
      go_ret
      exact ⟨rfl, hR.congr fun i hi => by unfold tabF; rw [if_pos hi], hB, hS⟩
theorem not32 (c : Nat) (h : c < 4294967296) : bits .xor .u32 IntKind.u32.max (c : Int) = ((4294967295 ^^^ c : Nat) : Int) := by
  have := xor32 4294967295 c (by decide) h
  rw [show IntKind.u32.max = 4294967295 from by decide]
  exact this
theorem crcS_take (c : Nat) (xs : List Nat) (k : Nat) (h : k < xs.length) : crcS c (xs.take (k + 1)) = stpn 8 (crcS c (xs.take k) ^^^ xs.getD k 0) := by
  rw [take_snocD xs k h, crcS_snoc]
set_option maxRecDepth 100000 in
set_option maxHeartbeats 1000000 in
theorem crc_short (A : Option Addr) (cap n : Nat) (xs : List Nat) (w : World) (hx : Byt xs) (hn : xs.length = n) (hr : Reads w w.heap.size 1 A n (xs.map bv)) (hm : n < 64) :
    Calls Tryz.prog 86 #[.slice A n cap] w fun e w' => e = .returned (.int .u32 (crc xs : Nat)) ∧ w = w' := by
  have hmb : decide ((n : Int) < 64) = true := by simp; omega
  have HR := Lh hr
  clear hr
  go_enter Tryz.func86, Tryz.ntmps86
  go_wp2
  go_loop [3, 14] (fun vc vi => ∃ k : Nat, k ≤ n ∧ vi = .int .i64 k ∧ vc = .int .u32 (crcS 4294967295 (xs.take k) : Nat)) (fun _ vi => n - (intOf vi).toNat)
  case atStart => exact ⟨0, by omega, rfl, rfl⟩
  case round =>
    obtain ⟨k, hk, rfl, rfl⟩ := hrel
    have hc0 := crcS_lt (xs.take k) (c := 4294967295) (by decide) (hx.take k)
    obtain ⟨c0, e0⟩ : ∃ c0, crcS 4294967295 (xs.take k) = c0 := ⟨_, rfl⟩
    by_cases hlt : k < n
    · obtain ⟨ad, rfl, hbl, hcell⟩ := HR.out.byteD hlt
      have hxb := hx.getD k
      have es := crcS_take 4294967295 xs k (by omega)
      obtain ⟨x, ex⟩ : ∃ x, xs.getD k 0 = x := ⟨_, rfl⟩
      rw [e0] at hc0 ⊢
      rw [e0, ex] at es
      rw [ex] at hcell hxb
      have hd : c0 ^^^ x < 4294967296 := xor_lt32 hc0 (by omega)
      have x1 := xor32 c0 x hc0 (by omega)
      obtain ⟨d, ed⟩ : ∃ d, c0 ^^^ x = d := ⟨_, rfl⟩
      rw [ed] at hd x1
      have ES := Lh es
      have ED := Lh ed
      clear es ed ex e0
      go_wp2
      go_loop [3, 22] (fun vc vj => ∃ j : Nat, j ≤ 8 ∧ vj = .int .i64 j ∧ vc = .int .u32 (stpn j d : Nat)) (fun _ vj => 8 - (intOf vj).toNat)
      case atStart => exact ⟨0, by omega, rfl, rfl⟩
      case round =>
        obtain ⟨j, hj, rfl, rfl⟩ := hrel
        have hc : stpn j d < 4294967296 := stpn_lt j hd
        obtain ⟨c, ec⟩ : ∃ c, stpn j d = c := ⟨_, rfl⟩
        have e2 : stpn (j + 1) d = stp c := by rw [← ec]; rfl
        rw [ec] at hc ⊢
        have E2 := Lh e2
        by_cases hj8 : j < 8
        · clear ec e2
          have a1 := and32_1 c hc
          by_cases h1 : c % 2 = 1
          · have a2 := and32_all
            have a3 := stp_odd c hc h1
            rw [h1] at a1
            have H1 := Lh h1
            clear h1
            go_wp2
            exact ⟨⟨j + 1, by omega, by go_num, by rw [E2.out]⟩, by simp [intOf]; omega⟩
          · have a2 := and32_none
            have a3 := stp_even c hc h1
            rw [show c % 2 = 0 from by omega] at a1
            have H1 := Lh h1
            clear h1
            go_wp2
            exact ⟨⟨j + 1, by omega, by go_num, by rw [E2.out]⟩, by simp [intOf]; omega⟩
        · obtain rfl : j = 8 := by omega
          have EC := Lh ec
          clear ec e2 E2
          go_wp2
          exact ⟨⟨k + 1, by omega, by go_num, by rw [ES.out, ED.out, EC.out]⟩, by simp [intOf]; omega⟩
    · obtain rfl : k = n := by omega
      rw [List.take_of_length_le (by omega)] at e0 hc0 ⊢
      have hc1 := not32 _ hc0
      rw [e0] at hc0 hc1 ⊢
      have E0 := Lh e0
      clear e0
      go_wp2
      go_ret
      exact ⟨by unfold crc; rw [E0.out]; rfl, rfl⟩
set_option maxRecDepth 100000 in
set_option maxHeartbeats 1000000 in
theorem crc_long (A : Option Addr) (cap n : Nat) (xs : List Nat) (w : World) (hx : Byt xs) (hn : xs.length = n) (hr : Reads w w.heap.size 1 A n (xs.map bv)) (hm : 64 ≤ n) (hm2 : n ≤ maxLen) :
    Calls Tryz.prog 86 #[.slice A n cap] w fun e w' => e = .returned (.int .u32 (crc xs : Nat)) ∧ Below w.heap.size w w' := by
  have HR := Lh hr
  clear hr
  unfold maxLen at hm2
  have hmb : decide ((n : Int) < 64) = false := by simp; omega
  go_enter Tryz.func86, Tryz.ntmps86
  go_wp2_with (go_at_call 116; refine (table_any _).mono ?_; rintro e w1 ⟨rfl, hT, hB, hS⟩)
  have HT := Lh hT
  have HR1 := Lh (HR.out.below hB)
  clear hT HR
  go_loop [3, 38] (fun vc vi => ∃ k : Nat, k ≤ n ∧ vi = .int .i64 k ∧ vc = .int .u32 (crcS 4294967295 (xs.take k) : Nat)) (fun _ vi => n - (intOf vi).toNat)
  case atStart => exact ⟨0, by omega, rfl, rfl⟩
  case round =>
    obtain ⟨k, hk, rfl, rfl⟩ := hrel
    have hc0 := crcS_lt (xs.take k) (c := 4294967295) (by decide) (hx.take k)
    obtain ⟨c0, e0⟩ : ∃ c0, crcS 4294967295 (xs.take k) = c0 := ⟨_, rfl⟩
    by_cases hlt : k < n
    · obtain ⟨ad, rfl, hbl, hcell⟩ := HR1.out.byteD hlt
      have hxb := hx.getD k
      have es := crcS_take 4294967295 xs k (by omega)
      obtain ⟨x, ex⟩ : ∃ x, xs.getD k 0 = x := ⟨_, rfl⟩
      rw [e0] at hc0 ⊢
      rw [e0, ex, ← by_table (by rw [← ex]; exact hxb)] at es
      rw [ex] at hcell hxb
      have x1 := u8_xor_nat (c0 % 256) x (by omega) hxb
      have hy : c0 % 256 ^^^ x < 256 := Nat.xor_lt_two_pow (n := 8) (by omega) hxb
      obtain ⟨y, ey⟩ : ∃ y, c0 % 256 ^^^ x = y := ⟨_, rfl⟩
      rw [ey] at es x1 hy
      have ft := HT.out.cell hy
      have x2 := xor32 (c0 / 256) (stpn 8 y) (by omega) (stpn_lt 8 (by omega))
      rw [← es] at x2
      have x3 : bits .xor .u8 ((c0 : Int) % 256) (x : Int) = (y : Int) := x1
      have x4 : bits .xor .u32 ((c0 : Int) / 256) ((stpn 8 y : Nat) : Int) = ((crcS 4294967295 (xs.take (k + 1)) : Nat) : Int) := x2
      clear x1 x2
      have ES := Lh es
      clear es ex e0 ey
      go_wp2
      exact ⟨⟨k + 1, by omega, by go_num, rfl⟩, by simp [intOf]; omega⟩
    · obtain rfl : k = n := by omega
      rw [List.take_of_length_le (by omega)] at e0 hc0 ⊢
      have hc1 := not32 _ hc0
      rw [e0] at hc0 hc1 ⊢
      have E0 := Lh e0
      clear e0
      go_wp2
      go_ret
      exact ⟨by unfold crc; rw [E0.out]; rfl, hB⟩
end Go.Proofs.YtlnneacgllhdhaaGreatDoor
end
section
namespace Go.Proofs.YtlnneacgllhdhaaGreatDoor
open Go.RowKit OctMath
set_option linter.unusedVariables false
theorem crc_any (A : Option Addr) (cap n : Nat) (xs : List Nat) (w : World) (hx : Byt xs) (hn : xs.length = n) (hr : Reads w w.heap.size 1 A n (xs.map bv)) (hm2 : n ≤ maxLen) :
    Calls Tryz.prog 86 #[.slice A n cap] w fun e w' => e = .returned (.int .u32 (crc xs : Nat)) ∧ Below w.heap.size w w' := by
  by_cases h : n < 64
  · exact (crc_short A cap n xs w hx hn hr h).mono fun e w' ⟨h1, h2⟩ => ⟨h1, h2 ▸ Below.refl _ _⟩
  · exact crc_long A cap n xs w hx hn hr (by omega) hm2
end Go.Proofs.YtlnneacgllhdhaaGreatDoor
end
section
namespace Go.Proofs.YtlnneacgllhdhaaGreatDoor
open Go.RowKit Go.ChangeShapes
set_option linter.unusedVariables false
theorem bulk_lits {H : Type} (k : IntKind) (zs : List Int) : Rows.uptoBulkAll (lits (H := H) k zs) = zs.length := by
  unfold lits
  induction zs with
  | nil => simp [Rows.uptoBulkAll]
  | cons x a ih => simp only [List.map_cons, Rows.uptoBulkAll, Rows.uptoBulk, ih, List.length_cons]; omega
theorem ints_small {H : Type} {enc : TypeId × Value → H} {P : Program} {t e : TypeId} {k : IntKind} {w : World} {base : Nat} {sp : Nat → Bool} {held : Bool} {A : Option Addr} {len cap : Nat} {d : DataW H} {ps : List MemPlace}
    (ht : P.underlying t = some (.slice e)) (he : P.underlying e = some (.int k)) (hc : P.cellsOf e = 1) (h : DataW.Trod enc P w base sp held t (.slice A len cap) d ps)
    (hsz : Rows.uptoBulk d ≤ 1048576) : len ≤ 1048576 := by
  obtain ⟨fuel, hf⟩ := h
  rcases open_ints ht he hc hf with ⟨hcs, _⟩ | ⟨x, l, c, zs, hcs, _, hl, hm, hz, hx, hcell, hwz⟩
  · simp [Value.cells] at hcs
    obtain ⟨rfl, rfl, rfl⟩ := hcs
    omega
  · simp [Value.cells] at hcs
    obtain ⟨rfl, rfl, rfl⟩ := hcs
    have hz' : len ≤ zs.length := by
      have h1 : zs.length = if sp x.block = true then cap else len := by simpa using hz
      rw [h1]; split <;> omega
    have hd : d = .slice (lits k (zs.take len)) (lits k (zs.drop len)) := congrArg Prod.fst hx
    subst hd
    rw [Rows.uptoBulk, bulk_lits, bulk_lits, List.length_take, List.length_drop] at hsz
    omega
theorem str_small {H : Type} {s : ByteArray} (h : Rows.uptoBulk (H := H) (.lit (.string s.data.toList)) ≤ 1048576) : s.size ≤ 1048576 := by
  rw [Rows.uptoBulk, Array.length_toList] at h
  have : s.size = s.data.size := rfl
  omega
end Go.Proofs.YtlnneacgllhdhaaGreatDoor
end
section
namespace Go.Proofs.YtlnneacgllhdhaaGreatDoor
open Go.RowKit OctMath
set_option linter.unusedVariables false
def RetB (ys : List Nat) (w : World) (e : Ending) (w' : World) : Prop :=
  ∃ A n cap, e = .returned (.slice A n cap) ∧ Hid (Reads w' w'.heap.size 1 A n (ys.map bv)) ∧ Below w.heap.size w w' ∧ n ≤ cap ∧ cap ≤ maxLen
theorem RetS.toB {t : TypeId} {xs : List Value} {ys : List Nat} {w w' : World} {e : Ending} (h : RetS t xs w e w') (hx : xs = ys.map bv) : RetB ys w e w' := by
  subst hx
  obtain ⟨A, cap, rfl, hr, h1, h2, hb, _⟩ := h.open
  exact ⟨A, _, cap, rfl, Lh hr, hb, h1, h2⟩
theorem reads_len {w : World} {B n : Nat} {A : Option Addr} {ys : List Nat} (h : Reads w B 1 A n (ys.map bv)) : n = ys.length := by simpa using h.1.symm
section
variable (A : Option Addr) (cap l : Nat) (xs : List Nat) (w : World) (hr : Hid (Reads w w.heap.size 1 A l (xs.map bv)))
include hr
theorem putnumB (n : Nat) (hn : n < 18446744073709551616) (hm : l ≤ 140737488351232) : Calls Tryz.prog 24 #[.slice A l cap, .int .u64 n] w (RetB (xs ++ putN n) w) :=
  (putnum_any A cap l n (xs.map bv) w hr.out (bv_one xs) hn hm).mono fun _ _ h => RetS.toB h (by simp)
theorem putintB (n : Int) (n1 : -9223372036854775808 ≤ n) (n2 : n ≤ 9223372036854775807) (hm : l ≤ 140737488351232) : Calls Tryz.prog 23 #[.slice A l cap, .int .i64 n] w (RetB (xs ++ putN (zz n)) w) :=
  (putint_any A cap l n (xs.map bv) w hr.out (bv_one xs) n1 n2 hm).mono fun _ _ h => RetS.toB h (by simp)
theorem putflagB (f : Bool) (hm : l ≤ 140737488351232) : Calls Tryz.prog 25 #[.slice A l cap, .bool f] w (RetB (xs ++ [f.toNat]) w) :=
  (putflag_any f A cap l (xs.map bv) w hr.out (bv_one xs) hm).mono fun _ _ h => RetS.toB h (by simp)
theorem putbytesB (B : Option Addr) (cap' m : Nat) (ys : List Nat) (hr' : Hid (Reads w w.heap.size 1 B m (ys.map bv))) (hm : l + m ≤ 140737488351000) : Calls Tryz.prog 29 #[.slice A l cap, .slice B m cap'] w (RetB (xs ++ (putN m ++ ys)) w) :=
  (putbytes_any A B cap cap' l m (xs.map bv) (ys.map bv) w hr.out (bv_one xs) hr'.out (bv_one ys) (by have := putN_len10 (n := m) (by omega); omega)).mono fun _ _ h => RetS.toB h (by simp)
end
def wordL (z : Nat) : List Nat := [z % 256, z / 256 % 256, z / 65536 % 256, z / 16777216]
theorem wordL_byt (z : Nat) (hz : z < 4294967296) : Byt (wordL z) := by
  intro x hx
  simp only [wordL, List.mem_cons, List.not_mem_nil, or_false] at hx
  omega
theorem word_row (w : World) (t : TypeId) (z : Nat) (cs : Array Value) (h : cs.toList = (wordL z).map bv) :
    RetB (wordL z) w (.returned (.slice (some ⟨w.heap.size, 0, none⟩) 4 4)) (w.alloc (.cells cs t)) := by
  have h1 := Reads.lit w t ((wordL z).map bv) 1 4 rfl
  rw [← h, Array.toArray_toList] at h1
  exact ⟨_, _, _, rfl, Lh (by rw [← h]; exact h1.more (by simp)), (Below.refl _ _).alloc (Nat.le_refl _) _, Nat.le_refl _, by decide⟩
set_option maxRecDepth 100000 in
theorem word_any (z : Nat) (w : World) (hz : z < 4294967296) : Calls Tryz.prog 36 #[.int .u32 (z : Int)] w (RetB (wordL z) w) := by
  go_enter Tryz.func36, Tryz.ntmps36
  go_wp2
  go_ret
  exact word_row w _ z _ (by simp [wordL, bv])
end Go.Proofs.YtlnneacgllhdhaaGreatDoor
end
section
namespace Go.Proofs.YtlnneacgllhdhaaGreatDoor
open Go OctMath
set_option linter.unusedVariables false
set_option linter.unusedSimpArgs false
def wordN (l : List Nat) : Nat := l.getD 0 0 + 256 * l.getD 1 0 + 65536 * l.getD 2 0 + 16777216 * l.getD 3 0
theorem wordL_len (z : Nat) : (wordL z).length = 4 := rfl
theorem wordN_wordL {z : Nat} (hz : z < 4294967296) (r : List Nat) : wordN (wordL z ++ r) = z := by
  show z % 256 + 256 * (z / 256 % 256) + 65536 * (z / 65536 % 256) + 16777216 * (z / 16777216) = z
  omega
theorem crc_lt {xs : List Nat} (h : ∀ x ∈ xs, x < 256) : crc xs < 4294967296 := xor_lt32 (by decide) (crcS_lt xs (by decide) h)
def seal_ (b : List Nat) : List Nat := b ++ wordL (crc b)
def fr (b : List Nat) : List Nat := seal_ (wordL b.length) ++ seal_ b
def opn (bs : List Nat) (n : Nat) : Nat × List Nat × List Nat := if bs.length < n + 4 then (40, [], []) else if wordN (bs.drop n) = crc (bs.take n) then (0, bs.take n, bs.drop (n + 4)) else (61, [], [])
theorem opn_seal {b : List Nat} (hb : ∀ x ∈ b, x < 256) (r : List Nat) : opn (seal_ b ++ r) b.length = (0, b, r) := by
  have h0 : ¬ (seal_ b ++ r).length < b.length + 4 := by unfold seal_; simp only [List.length_append, wordL_len]; omega
  have e1 : (seal_ b ++ r).take b.length = b := by unfold seal_; rw [List.append_assoc, List.take_left]
  have e2 : (seal_ b ++ r).drop b.length = wordL (crc b) ++ r := by unfold seal_; rw [List.append_assoc, List.drop_left]
  have e3 : (seal_ b ++ r).drop (b.length + 4) = r := by
    have : (seal_ b).length = b.length + 4 := by unfold seal_; simp only [List.length_append, wordL_len]
    rw [← this, List.drop_left]
  unfold opn
  rw [if_neg h0, e1, e2, e3, wordN_wordL (crc_lt hb), if_pos rfl]
def nxt (s : List Nat) : Nat × List Nat :=
  if (opn s 4).1 = 0 then (if 4194304 < wordN (opn s 4).2.1 then (60, []) else ((opn (opn s 4).2.2 (wordN (opn s 4).2.1)).1, (opn (opn s 4).2.2 (wordN (opn s 4).2.1)).2.1)) else ((opn s 4).1, [])
theorem wordL_byt' {n : Nat} (h : n ≤ 4194304) : ∀ x ∈ wordL n, x < 256 := wordL_byt n (by omega)
theorem opn_head {b : List Nat} (hl : b.length ≤ 4194304) (r : List Nat) : opn (fr b ++ r) 4 = (0, wordL b.length, seal_ b ++ r) := by
  have := opn_seal (wordL_byt' hl) (seal_ b ++ r)
  rw [wordL_len] at this
  unfold fr
  rw [List.append_assoc]
  exact this
theorem nxt_fr {b : List Nat} (hb : ∀ x ∈ b, x < 256) (hl : b.length ≤ 4194304) (r : List Nat) : nxt (fr b ++ r) = (0, b) := by
  have hw : wordN (wordL b.length) = b.length := by have := wordN_wordL (z := b.length) (by omega) []; rwa [List.append_nil] at this
  unfold nxt
  rw [opn_head hl]
  show (if (0 : Nat) = 0 then (if 4194304 < wordN (wordL b.length) then ((60 : Nat), ([] : List Nat)) else ((opn (seal_ b ++ r) (wordN (wordL b.length))).1, (opn (seal_ b ++ r) (wordN (wordL b.length))).2.1)) else (0, [])) = _
  rw [hw, if_pos rfl, if_neg (by omega), opn_seal hb]
theorem opn_short {bs : List Nat} {n : Nat} (h : bs.length < n + 4) : opn bs n = (40, [], []) := by unfold opn; rw [if_pos h]
/-! ### Turned bits -/
end Go.Proofs.YtlnneacgllhdhaaGreatDoor
end
section
namespace Go.Proofs.YtlnneacgllhdhaaGreatDoor
open Go.RowKit OctMath
set_option linter.unusedVariables false
set_option linter.unusedSimpArgs false
def GE (w : World) : Prop := w.cell? ⟨0, 0, none⟩ = some (.iface 216 (.agg #[.pointer (some ⟨1, 101, none⟩)]))
theorem GE.lt {w : World} (h : GE w) : 0 < w.heap.size := World.block_lt_of_cell? _ ⟨0, 0, none⟩ h
theorem GE.later {w w' : World} (h : GE w) (hb : Below w.heap.size w w') : GE w' := (hb.cell (p := ⟨0, 0, none⟩) h.lt).trans h
set_option maxRecDepth 100000 in
set_option maxHeartbeats 4000000 in
theorem wnumber_any (e : Int) (w : World) (hg : Hid (GE w)) : Calls Tryz.prog 38 #[.iface 125 (.int .i64 e)] w fun ev w' => ev = .returned (.int .i64 e) ∧ Below w.heap.size w w' := by
  have hb0 : Below w.heap.size w (w.alloc (.cells #[.int .i64 0] 125)) := (Below.refl _ _).alloc (Nat.le_refl _) _
  have hx : Blk (w.alloc (.cells #[.int .i64 0] 125)) w.heap.size 125 #[.int .i64 0] := Blk.new w _ _
  obtain ⟨w1, ew1⟩ : ∃ w1, w.alloc (.cells #[.int .i64 0] 125) = w1 := ⟨_, rfl⟩
  rw [ew1] at hb0 hx
  have HAS := Lh (as_hit e ⟨w.heap.size, 0, none⟩ (.int .i64 0) w1 (hg.out.later hb0) (hx.cell 0) (hx.frozen 0))
  have HX := Lh hx
  have HB := Lh hb0
  clear hx hb0
  go_enter Tryz.func38, Tryz.ntmps38
  go_wp2_with (go_at_call 89; refine HAS.out.mono ?_; rintro ev w' ⟨rfl, hw⟩
               have h1 := ((HX.out.alloc (.cells #[.pointer (some ⟨w.heap.size, 0, none⟩)] 150)).alloc (.cells #[.pointer (some ⟨1, 150, none⟩), .pointer (some ⟨w1.heap.size, 0, none⟩), .int .u64 150] 192)).alloc (.cells #[.pointer (some ⟨1, 150, none⟩), .pointer (some ⟨w1.heap.size, 0, none⟩), .int .u64 150] 192) |>.alloc (.cells #[.int .i64 e] 125) |>.set_ 0 (.int .i64 e)
               have h2 := ((((HB.out.alloc HB.out.size (.cells #[.pointer (some ⟨w.heap.size, 0, none⟩)] 150)).alloc (by simp; have := HB.out.size; omega) (.cells #[.pointer (some ⟨1, 150, none⟩), .pointer (some ⟨w1.heap.size, 0, none⟩), .int .u64 150] 192)).alloc (by simp; have := HB.out.size; omega) (.cells #[.pointer (some ⟨1, 150, none⟩), .pointer (some ⟨w1.heap.size, 0, none⟩), .int .u64 150] 192)).alloc (by simp; have := HB.out.size; omega) (.cells #[.int .i64 e] 125)).trans ((Only.set_ _ w.heap.size 0 (.int .i64 e)).below (Nat.le_refl _))
               rw [hw] at h1 h2
               have c0 : w'.cell? ⟨w.heap.size, 0, none⟩ = some (.int .i64 e) := h1.cell 0
               have H2 := Lh h2
               clear h1 h2 hw ew1)
  go_ret
  exact ⟨rfl, H2.out⟩
theorem ofInt_u32 (a : Nat) (h : a < 4294967296) : (BitVec.ofInt 32 (a : Int)).toNat = a := by
  rw [BitVec.toNat_ofInt]
  omega
theorem or_u32 (a b : Nat) (ha : a < 4294967296) (hb : b < 4294967296) : bits .or .u32 (a : Int) (b : Int) = ((a ||| b : Nat) : Int) := by
  show IntKind.u32.wrap ((BitVec.ofInt 32 (a : Int) ||| BitVec.ofInt 32 (b : Int)).toNat : Int) = _
  rw [BitVec.toNat_or, ofInt_u32 a ha, ofInt_u32 b hb]
  have h : a ||| b < 2 ^ 32 := Nat.or_lt_two_pow ha hb
  simp only [IntKind.wrap, IntKind.signed, IntKind.bits]
  simp
  omega
theorem or_step (x y k c : Nat) (hc : c = 2 ^ k) (hx : x < c) (hy : y * c < 4294967296 ∧ x < 4294967296) : bits .or .u32 (x : Int) ((y : Int) * (c : Int)) = ((x + y * c : Nat) : Int) := by
  have e : x ||| y * c = x + y * c := by
    subst hc
    have := Nat.two_pow_add_eq_or_of_lt (i := k) (b := x) hx y
    rw [Nat.or_comm, Nat.mul_comm y, ← this, Nat.add_comm]
  rw [show (y : Int) * (c : Int) = ((y * c : Nat) : Int) from by rw [Int.natCast_mul], or_u32 x (y * c) hy.2 hy.1, e]
set_option maxRecDepth 100000 in
set_option maxHeartbeats 4000000 in
theorem wword_any (A : Option Addr) (l cap : Nat) (xs : List Nat) (w : World) (hr : Hid (Reads w w.heap.size 1 A l (xs.map bv))) (hb : Byt xs) (h4 : 4 ≤ l) :
    Calls Tryz.prog 88 #[.slice A l cap] w fun ev w' => ev = .returned (.int .u32 (wordN xs : Int)) ∧ w.drew = w' := by
  have hl : xs.length = l := by simpa using hr.out.1
  obtain ⟨ad, hA, hlt, hc⟩ := hr.out.2 (by omega)
  subst hA
  have e : ∀ k, k < l → xs[k]? = some (xs.getD k 0) := fun k hk => by rw [List.getD_eq_getElem?_getD, List.getElem?_eq_getElem (by omega)]; rfl
  have g : ∀ k, k < l → w.cell? (ad.add k) = some (.int .u8 ((xs.getD k 0 : Nat) : Int)) := fun k hk => hc k _ (by rw [List.getElem?_map, e k hk]; rfl)
  have b : ∀ k, xs.getD k 0 < 256 := fun k => by
    rw [List.getD_eq_getElem?_getD]
    cases q : xs[k]? with
    | none => decide
    | some y => exact hb y (List.mem_of_getElem? q)
  have g0 := g 0 (by omega); have g1 := g 1 (by omega); have g2 := g 2 (by omega); have g3 := g 3 (by omega)
  rw [Addr.add_zero'] at g0
  rw [Addr.add_succ'] at g1 g2 g3
  have b0 := b 0; have b1 := b 1; have b2 := b 2; have b3 := b 3
  have HW := Lh (show wordN xs = xs.getD 0 0 + 256 * xs.getD 1 0 + 65536 * xs.getD 2 0 + 16777216 * xs.getD 3 0 from rfl)
  generalize xs.getD 0 0 = a0 at *
  generalize xs.getD 1 0 = a1 at *
  generalize xs.getD 2 0 = a2 at *
  generalize xs.getD 3 0 = a3 at *
  have d0 : decide ((0 : Int) < (l : Int)) = true := decide_eq_true (by omega)
  have d1 : decide ((1 : Int) < (l : Int)) = true := decide_eq_true (by omega)
  have d2 : decide ((2 : Int) < (l : Int)) = true := decide_eq_true (by omega)
  have d3 : decide ((3 : Int) < (l : Int)) = true := decide_eq_true (by omega)
  clear e g b hc
  go_enter Tryz.func88, Tryz.ntmps88
  go_wp2_with fail
  go_region
  go_wp2
  go_ret
  refine ⟨?_, rfl⟩
  have e1 : bits .or .u32 (a0 : Int) ((a1 : Int) * 256) = ((a0 + a1 * 256 : Nat) : Int) := or_step a0 a1 8 256 rfl (by omega) (by omega)
  have e2 : bits .or .u32 ((a0 + a1 * 256 : Nat) : Int) ((a2 : Int) * 65536) = ((a0 + a1 * 256 + a2 * 65536 : Nat) : Int) := or_step _ a2 16 65536 rfl (by omega) (by omega)
  have e3 : bits .or .u32 ((a0 + a1 * 256 + a2 * 65536 : Nat) : Int) ((a3 : Int) * 16777216) = ((a0 + a1 * 256 + a2 * 65536 + a3 * 16777216 : Nat) : Int) := or_step _ a3 24 16777216 rfl (by omega) (by omega)
  show Ending.returned (.int .u32 (bits .or .u32 (bits .or .u32 (bits .or .u32 (a0 : Int) ((a1 : Int) * 256)) ((a2 : Int) * 65536)) ((a3 : Int) * 16777216))) = _
  rw [e1, e2, e3, HW.out]
  congr 2
  omega
end Go.Proofs.YtlnneacgllhdhaaGreatDoor
end
section
namespace Go.Proofs.YtlnneacgllhdhaaGreatDoor.OctMath
theorem rdF_one (cs : List Nat) : ∀ i acc, (∀ x ∈ cs, x < 256) → (rdF cs i acc).2.2 = 0 →
    ∃ V, (rdF cs i acc).1 = acc + V * 128 ^ i ∧ (rdF cs i acc).2.1 = i + (putN V).length ∧ cs.take (putN V).length = putN V ∧ (putN V).length ≤ cs.length ∧ (0 < i → V ≠ 0) := by
  induction cs with
  | nil => intro i acc _ h; simp [rdF] at h
  | cons c cs ih =>
    intro i acc hx
    rw [rdF]
    by_cases hbad : (i = 9 ∧ 1 < c) ∨ (0 < i ∧ c = 0)
    · rw [if_pos hbad]; intro h; simp at h
    · rw [if_neg hbad]
      by_cases hc : c < 128
      · rw [if_pos hc]; intro _
        refine ⟨c, by rw [Nat.mod_eq_of_lt hc], by rw [putN_small hc]; rfl, by rw [putN_small hc]; rfl, by rw [putN_small hc]; simp, fun hi e => hbad (.inr ⟨hi, e⟩)⟩
      · rw [if_neg hc]; intro h
        obtain ⟨V, h1, h2, h3, h4, h5⟩ := ih (i + 1) (acc + c % 128 * 128 ^ i) (fun x hx' => hx x (List.mem_cons_of_mem _ hx')) h
        have hV := h5 (by omega)
        have hc2 := hx c (List.mem_cons_self ..)
        have e : putN (c % 128 + 128 * V) = c :: putN V := by
          rw [putN_big (by omega), show (c % 128 + 128 * V) % 128 + 128 = c from by omega, show (c % 128 + 128 * V) / 128 = V from by omega]
        refine ⟨c % 128 + 128 * V, ?_, ?_, ?_, ?_, fun _ => by omega⟩
        · rw [h1, Nat.pow_succ, Nat.add_mul, Nat.mul_comm (128 ^ i) 128, ← Nat.mul_assoc, Nat.mul_comm V 128, Nat.add_assoc]
        · rw [h2, e]; simp; omega
        · rw [e]; simp [h3]
        · rw [e]; simp; exact h4
theorem rdF_put (n : Nat) : ∀ i acc rest, n * 128 ^ i < 18446744073709551616 → (0 < i → n ≠ 0) → i ≤ 9 →
    rdF (putN n ++ rest) i acc = (acc + n * 128 ^ i, i + (putN n).length, 0) := by
  induction n using Nat.strongRecOn with
  | _ n ih =>
    intro i acc rest hn h0 hi
    by_cases h : n < 128
    · rw [putN_small h, List.singleton_append, rdF]
      have hbad : ¬ ((i = 9 ∧ 1 < n) ∨ (0 < i ∧ n = 0)) := by
        rintro (⟨rfl, h1⟩ | ⟨h1, h2⟩)
        · omega
        · exact h0 h1 h2
      rw [if_neg hbad, if_pos h, Nat.mod_eq_of_lt h]; rfl
    · have hi9 : i < 9 := by
        rcases Nat.lt_or_ge i 9 with h1 | h1
        · exact h1
        · obtain rfl : i = 9 := by omega
          omega
      rw [putN_big h, List.cons_append, rdF]
      have hbad : ¬ ((i = 9 ∧ 1 < n % 128 + 128) ∨ (0 < i ∧ n % 128 + 128 = 0)) := by omega
      rw [if_neg hbad, if_neg (by omega)]
      have e : (n / 128) * 128 ^ (i + 1) = (n / 128 * 128) * 128 ^ i := by rw [Nat.pow_succ, Nat.mul_comm (128 ^ i) 128, ← Nat.mul_assoc]
      have le : (n / 128 * 128) * 128 ^ i ≤ n * 128 ^ i := Nat.mul_le_mul_right _ (by omega)
      rw [ih (n / 128) (by omega) (i + 1) _ rest (by rw [e]; omega) (by omega) (by omega), e]
      have e2 : (n % 128 + 128) % 128 = n % 128 := by omega
      rw [e2]
      have e3 : acc + n % 128 * 128 ^ i + n / 128 * 128 * 128 ^ i = acc + n * 128 ^ i := by
        rw [Nat.add_assoc, ← Nat.add_mul, show n % 128 + n / 128 * 128 = n from by omega]
      rw [e3]
      simp only [List.length_cons]
      rw [show i + 1 + (putN (n / 128)).length = i + ((putN (n / 128)).length + 1) from by omega]
theorem rdN_one (bs : List Nat) (at_ : Int) (h : ∀ x ∈ bs, x < 256) (he : (rdN bs at_).2.2 = 0) :
    ∃ k : Nat, at_ = k ∧ (rdN bs at_).2.1 = ((k + (putN (rdN bs at_).1).length : Nat) : Int) ∧ k + (putN (rdN bs at_).1).length ≤ bs.length ∧
      (bs.drop k).take (putN (rdN bs at_).1).length = putN (rdN bs at_).1 := by
  unfold rdN at he ⊢
  by_cases hb : at_ < 0 ∨ (bs.length : Int) < at_
  · rw [if_pos hb] at he; simp at he
  · rw [if_neg hb] at he ⊢
    obtain ⟨k, rfl⟩ := Int.eq_ofNat_of_zero_le (show 0 ≤ at_ by omega)
    simp only [Int.toNat_natCast] at he ⊢
    by_cases hr : (rdF (bs.drop k) 0 0).2.2 = 0
    · rw [if_pos hr]
      obtain ⟨V, h1, h2, h3, h4, _⟩ := rdF_one (bs.drop k) 0 0 (fun x hx => h x (List.mem_of_mem_drop hx)) hr
      simp only [Nat.pow_zero, Nat.mul_one, Nat.zero_add] at h1 h2
      refine ⟨k, rfl, ?_, ?_, ?_⟩
      · simp only [h1, h2]; omega
      · simp only [h1]; rw [List.length_drop] at h4; omega
      · simp only [h1]; exact h3
    · rw [if_neg hr] at he; exact absurd he hr
theorem rdN_put (pre : List Nat) (n : Nat) (rest : List Nat) (hn : n < 18446744073709551616) :
    rdN (pre ++ (putN n ++ rest)) (pre.length : Nat) = (n, ((pre.length + (putN n).length : Nat) : Int), 0) := by
  unfold rdN
  rw [if_neg (by simp; omega)]
  simp only [Int.toNat_natCast, List.drop_left]
  rw [rdF_put n 0 0 rest (by simpa using hn) (by omega) (by omega)]
  simp
theorem zz_unz (n : Nat) : zz (unz n) = n := by
  unfold zz unz
  split <;> split <;> omega
theorem unz_zz (i : Int) : unz (zz i) = i := by
  unfold zz unz
  split <;> split <;> omega
theorem rdB_one (bs : List Nat) (at_ most : Int) (h : ∀ x ∈ bs, x < 256) (he : (rdB bs at_ most).2.2 = 0) :
    ∃ k : Nat, at_ = k ∧ (rdB bs at_ most).2.1 = ((k + (putN (rdB bs at_ most).1.length ++ (rdB bs at_ most).1).length : Nat) : Int) ∧
      k + (putN (rdB bs at_ most).1.length ++ (rdB bs at_ most).1).length ≤ bs.length ∧
      (bs.drop k).take (putN (rdB bs at_ most).1.length ++ (rdB bs at_ most).1).length = putN (rdB bs at_ most).1.length ++ (rdB bs at_ most).1 := by
  unfold rdB at he ⊢
  simp only at he ⊢
  by_cases h1 : (rdN bs at_).2.2 ≠ 0
  · rw [if_pos h1] at he; exact absurd he h1
  · rw [if_neg h1] at he ⊢
    by_cases h2 : most < 0 ∨ most < ((rdN bs at_).1 : Int) ∨ (bs.length : Int) - (rdN bs at_).2.1 < ((rdN bs at_).1 : Int)
    · rw [if_pos h2] at he; simp at he
    · rw [if_neg h2]
      obtain ⟨k, hk, e1, e2, e3⟩ := rdN_one bs at_ h (by omega)
      obtain ⟨V, eV⟩ : ∃ V, (rdN bs at_).1 = V := ⟨_, rfl⟩
      rw [eV] at e1 e2 e3 h2 ⊢
      rw [e1] at h2 ⊢
      simp only [Int.toNat_natCast]
      have hl : ((bs.drop (k + (putN V).length)).take V).length = V := by rw [List.length_take, List.length_drop]; omega
      refine ⟨k, hk, ?_, ?_, ?_⟩
      · rw [List.length_append, hl]; omega
      · rw [List.length_append, hl]; omega
      · rw [List.length_append, hl, List.take_add, e3, List.drop_drop]
end Go.Proofs.YtlnneacgllhdhaaGreatDoor.OctMath
end
section
namespace Go.Proofs.YtlnneacgllhdhaaGreatDoor
open OctMath
set_option linter.unusedVariables false
abbrev Rd (α : Type) := Nat → Option (α × Nat)
def Rd.pure {α : Type} (x : α) : Rd α := fun at_ => some (x, at_)
def Rd.bind {α β : Type} (r : Rd α) (f : α → Rd β) : Rd β := fun at_ => match r at_ with
  | some (x, p) => f x p
  | none => none
theorem Rd.bind_some {α β : Type} {r : Rd α} {f : α → Rd β} {at_ p : Nat} {x : α} (h : r at_ = some (x, p)) : r.bind f at_ = f x p := by unfold Rd.bind; rw [h]
theorem Rd.bind_none {α β : Type} {r : Rd α} {f : α → Rd β} {at_ : Nat} (h : r at_ = none) : r.bind f at_ = none := by unfold Rd.bind; rw [h]
def rNum (bs : List Nat) : Rd Nat := fun at_ => if (rdN bs at_).2.2 = 0 then some ((rdN bs at_).1, (rdN bs at_).2.1.toNat) else none
def rInt (bs : List Nat) : Rd Int := fun at_ => (rNum bs at_).map fun x => (unz x.1, x.2)
def rWord (bs : List Nat) : Rd Nat := fun at_ => match rNum bs at_ with
  | some (n, p) => if n < 4294967296 then some (n, p) else none
  | none => none
def rFlag (bs : List Nat) : Rd Bool := fun at_ => if at_ < bs.length ∧ bs.getD at_ 0 ≤ 1 then some (decide (0 < bs.getD at_ 0), at_ + 1) else none
def rText (bs : List Nat) : Rd (List Nat) := fun at_ => if (rdB bs at_ 1048576).2.2 = 0 then some ((rdB bs at_ 1048576).1, (rdB bs at_ 1048576).2.1.toNat) else none
def rTimes {α : Type} (one : Rd α) : Nat → Rd (List α)
  | 0 => Rd.pure []
  | k + 1 => (rTimes one k).bind fun l => one.bind fun x => Rd.pure (l ++ [x])
def rList {α : Type} (bs : List Nat) (one : Rd α) : Rd (List α) := (rNum bs).bind fun n p => if 1048576 < n ∨ bs.length - p < n then none else rTimes one n p
def rMem (bs : List Nat) : Rd (Int × Int) := (rInt bs).bind fun i => (rInt bs).bind fun w => Rd.pure (i, w)
def rMap (bs : List Nat) : Rd (Nat × List (Int × Int)) := (rNum bs).bind fun e => (rList bs (rMem bs)).bind fun l => Rd.pure (e, l)
def rConf (bs : List Nat) : Rd (List Int × List Int) := (rList bs (rInt bs)).bind fun v => (rList bs (rInt bs)).bind fun l => Rd.pure (v, l)
structure IdT where
  ver : Nat
  idx : Int
  ep : Nat
def rId (bs : List Nat) : Rd IdT := (rNum bs).bind fun v => (rInt bs).bind fun i => (rNum bs).bind fun e => Rd.pure ⟨v, i, e⟩
structure HdT where
  id : IdT
  k : Int
  n : Int
  size : Int
  sum : Nat
def rHd (bs : List Nat) : Rd HdT := (rId bs).bind fun d => (rInt bs).bind fun k => (rInt bs).bind fun n => (rInt bs).bind fun s => (rWord bs).bind fun m => Rd.pure ⟨d, k, n, s, m⟩
structure Wrote {α : Type} (bs : List Nat) (r : Rd α) (put : α → List Nat) : Prop where
  rd : ∀ at_ x p, r at_ = some (x, p) → at_ ≤ bs.length → at_ ≤ p ∧ p ≤ bs.length ∧ (bs.drop at_).take (p - at_) = put x
theorem Wrote.pure {α : Type} (bs : List Nat) (x : α) : Wrote bs (Rd.pure x) (fun _ => []) := ⟨fun at_ y p h hl => by cases h; exact ⟨Nat.le_refl _, hl, by simp⟩⟩
theorem take_join (bs : List Nat) {a p q : Nat} (h1 : a ≤ p) (h2 : p ≤ q) : (bs.drop a).take (q - a) = (bs.drop a).take (p - a) ++ (bs.drop p).take (q - p) := by
  have e : q - a = (p - a) + (q - p) := by omega
  rw [e, List.take_add, List.drop_drop, show a + (p - a) = p by omega]
theorem Wrote.bind {α β : Type} {bs : List Nat} {r : Rd α} {f : α → Rd β} {put : α → List Nat} {put2 : α → β → List Nat} {put3 : β → List Nat} (h : Wrote bs r put) (hf : ∀ x, Wrote bs (f x) (put2 x)) (he : ∀ at_ x p y q, r at_ = some (x, p) → f x p = some (y, q) → put3 y = put x ++ put2 x y) : Wrote bs (r.bind f) put3 := by
  refine ⟨fun at_ y q hy hl => ?_⟩
  unfold Rd.bind at hy
  cases hr : r at_ with
  | none => rw [hr] at hy; cases hy
  | some v =>
    obtain ⟨x, p⟩ := v
    rw [hr] at hy
    obtain ⟨a1, a2, a3⟩ := h.rd at_ x p hr hl
    obtain ⟨b1, b2, b3⟩ := (hf x).rd p y q hy a2
    exact ⟨by omega, b2, by rw [take_join bs a1 b1, a3, b3, he at_ x p y q hr hy]⟩
end Go.Proofs.YtlnneacgllhdhaaGreatDoor
end
