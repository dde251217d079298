/-
  The walks of Word and Flag; contracts that speak of rows of bytes alone; FRAMES as bytes: what is read of a stream, what a cut or turned bits make of it. Plain; number; word; More words for rows of bytes: a part of a row; opened, next: bytes whose sum stands behind them; a frame at the head of a stream; next, Next: a frame at the head of a stream, at a place of it; Next: a frame at a place of a stream; sealed, Frame: bytes are framed. (joined out of OctW8, WirM, WirF1, Lib2, WirF2, WirF3, WirF4, WirF5 by shake.py)
-/
import Derived.Lib.SlBytesConst
import Derived.Test.YtlnneacgllhdhaaGreatDoorWcm03
import Derived.Test.YtlnneacgllhdhaaGreatDoorWcm02
import Derived.Test.YtlnneacgllhdhaaGreatDoorWcm01
section
namespace Go.Proofs.YtlnneacgllhdhaaGreatDoor
open Go.RowKit OctMath
set_option linter.unusedVariables false
/-- A slice of bytes that reads as a list; what was there stays. -/
def RetB (ys : List Nat) (w : World) (e : Ending) (w' : World) : Prop :=
  ∃ A n cap, e = .returned (.slice A n cap) ∧ Hid (Reads w' w'.heap.size 1 A n (ys.map bv)) ∧ Below w.heap.size w w' ∧ n ≤ cap ∧ cap ≤ maxLen
theorem RetS.toB {t : TypeId} {xs : List Value} {ys : List Nat} {w w' : World} {e : Ending} (h : RetS t xs w e w') (hx : xs = ys.map bv) : RetB ys w e w' := by
  subst hx
  obtain ⟨A, cap, rfl, hr, h1, h2, hb, _⟩ := h.open
  exact ⟨A, _, cap, rfl, Lib.hid hr, hb, h1, h2⟩
theorem reads_len {w : World} {B n : Nat} {A : Option Addr} {ys : List Nat} (h : Reads w B 1 A n (ys.map bv)) : n = ys.length := by simpa using h.1.symm
section
variable (A : Option Addr) (cap l : Nat) (xs : List Nat) (w : World) (hr : Hid (Reads w w.heap.size 1 A l (xs.map bv)))
include hr
theorem putnumB (n : Nat) (hn : n < 18446744073709551616) (hm : l ≤ 140737488351232) : Calls Tryz.prog 24 #[.slice A l cap, .int .u64 n] w (RetB (xs ++ putN n) w) :=
  (putnum_any A cap l n (xs.map bv) w hr.out (bv_one xs) hn hm).mono fun _ _ h => RetS.toB h (by simp)
theorem putintB (n : Int) (n1 : -9223372036854775808 ≤ n) (n2 : n ≤ 9223372036854775807) (hm : l ≤ 140737488351232) : Calls Tryz.prog 23 #[.slice A l cap, .int .i64 n] w (RetB (xs ++ putN (zz n)) w) :=
  (putint_any A cap l n (xs.map bv) w hr.out (bv_one xs) n1 n2 hm).mono fun _ _ h => RetS.toB h (by simp)
theorem putflagB (f : Bool) (hm : l ≤ 140737488351232) : Calls Tryz.prog 25 #[.slice A l cap, .bool f] w (RetB (xs ++ [f.toNat]) w) :=
  (putflag_any f A cap l (xs.map bv) w hr.out (bv_one xs) hm).mono fun _ _ h => RetS.toB h (by simp)
theorem putbytesB (B : Option Addr) (cap' m : Nat) (ys : List Nat) (hr' : Hid (Reads w w.heap.size 1 B m (ys.map bv))) (hm : l + m ≤ 140737488351000) : Calls Tryz.prog 29 #[.slice A l cap, .slice B m cap'] w (RetB (xs ++ (putN m ++ ys)) w) :=
  (putbytes_any A B cap cap' l m (xs.map bv) (ys.map bv) w hr.out (bv_one xs) hr'.out (bv_one ys) (by have := putN_len10 (n := m) (by omega); omega)).mono fun _ _ h => RetS.toB h (by simp)
end
def wordL (z : Nat) : List Nat := [z % 256, z / 256 % 256, z / 65536 % 256, z / 16777216]
theorem wordL_byt (z : Nat) (hz : z < 4294967296) : Byt (wordL z) := by
  intro x hx
  simp only [wordL, List.mem_cons, List.not_mem_nil, or_false] at hx
  omega
theorem word_row (w : World) (t : TypeId) (z : Nat) (cs : Array Value) (h : cs.toList = (wordL z).map bv) :
    RetB (wordL z) w (.returned (.slice (some ⟨w.heap.size, 0, none⟩) 4 4)) (w.alloc (.cells cs t)) := by
  have h1 := Reads.lit w t ((wordL z).map bv) 1 4 rfl
  rw [← h, Array.toArray_toList] at h1
  exact ⟨_, _, _, rfl, Lib.hid (by rw [← h]; exact h1.more (by simp)), (Below.refl _ _).alloc (Nat.le_refl _) _, Nat.le_refl _, by decide⟩
set_option maxRecDepth 100000 in
theorem word_any (z : Nat) (w : World) (hz : z < 4294967296) : Calls Tryz.prog 36 #[.int .u32 (z : Int)] w (RetB (wordL z) w) := by
  go_enter Tryz.func36, Tryz.ntmps36
  go_wp2
  go_ret
  exact word_row w _ z _ (by simp [wordL, bv])
end Go.Proofs.YtlnneacgllhdhaaGreatDoor
end
section
namespace Go.Proofs.YtlnneacgllhdhaaGreatDoor
open Go OctMath
set_option linter.unusedVariables false
set_option linter.unusedSimpArgs false
def wordN (l : List Nat) : Nat := l.getD 0 0 + 256 * l.getD 1 0 + 65536 * l.getD 2 0 + 16777216 * l.getD 3 0
theorem wordL_len (z : Nat) : (wordL z).length = 4 := rfl
theorem wordN_wordL {z : Nat} (hz : z < 4294967296) (r : List Nat) : wordN (wordL z ++ r) = z := by
  show z % 256 + 256 * (z / 256 % 256) + 65536 * (z / 65536 % 256) + 16777216 * (z / 16777216) = z
  omega
theorem crc_lt {xs : List Nat} (h : ∀ x ∈ xs, x < 256) : crc xs < 4294967296 := xor_lt32 (by decide) (crcS_lt xs (by decide) h)
/-- Bytes with their sum behind. -/
def seal_ (b : List Nat) : List Nat := b ++ wordL (crc b)
def fr (b : List Nat) : List Nat := seal_ (wordL b.length) ++ seal_ b
theorem fr_len (b : List Nat) : (fr b).length = b.length + 12 := by unfold fr seal_; simp only [List.length_append, wordL_len]; omega
/-- Bytes whose sum stands behind them: the error, the bytes, what stands behind. -/
def opn (bs : List Nat) (n : Nat) : Nat × List Nat × List Nat := if bs.length < n + 4 then (40, [], []) else if wordN (bs.drop n) = crc (bs.take n) then (0, bs.take n, bs.drop (n + 4)) else (61, [], [])
theorem opn_seal {b : List Nat} (hb : ∀ x ∈ b, x < 256) (r : List Nat) : opn (seal_ b ++ r) b.length = (0, b, r) := by
  have h0 : ¬ (seal_ b ++ r).length < b.length + 4 := by unfold seal_; simp only [List.length_append, wordL_len]; omega
  have e1 : (seal_ b ++ r).take b.length = b := by unfold seal_; rw [List.append_assoc, List.take_left]
  have e2 : (seal_ b ++ r).drop b.length = wordL (crc b) ++ r := by unfold seal_; rw [List.append_assoc, List.drop_left]
  have e3 : (seal_ b ++ r).drop (b.length + 4) = r := by
    have : (seal_ b).length = b.length + 4 := by unfold seal_; simp only [List.length_append, wordL_len]
    rw [← this, List.drop_left]
  unfold opn
  rw [if_neg h0, e1, e2, e3, wordN_wordL (crc_lt hb), if_pos rfl]
/-- A frame at the head of a stream: the error, its bytes. -/
def nxt (s : List Nat) : Nat × List Nat :=
  if (opn s 4).1 = 0 then (if 4194304 < wordN (opn s 4).2.1 then (60, []) else ((opn (opn s 4).2.2 (wordN (opn s 4).2.1)).1, (opn (opn s 4).2.2 (wordN (opn s 4).2.1)).2.1)) else ((opn s 4).1, [])
theorem wordL_byt' {n : Nat} (h : n ≤ 4194304) : ∀ x ∈ wordL n, x < 256 := wordL_byt n (by omega)
theorem opn_head {b : List Nat} (hl : b.length ≤ 4194304) (r : List Nat) : opn (fr b ++ r) 4 = (0, wordL b.length, seal_ b ++ r) := by
  have := opn_seal (wordL_byt' hl) (seal_ b ++ r)
  rw [wordL_len] at this
  unfold fr
  rw [List.append_assoc]
  exact this
theorem nxt_fr {b : List Nat} (hb : ∀ x ∈ b, x < 256) (hl : b.length ≤ 4194304) (r : List Nat) : nxt (fr b ++ r) = (0, b) := by
  have hw : wordN (wordL b.length) = b.length := by have := wordN_wordL (z := b.length) (by omega) []; rwa [List.append_nil] at this
  unfold nxt
  rw [opn_head hl]
  show (if (0 : Nat) = 0 then (if 4194304 < wordN (wordL b.length) then ((60 : Nat), ([] : List Nat)) else ((opn (seal_ b ++ r) (wordN (wordL b.length))).1, (opn (seal_ b ++ r) (wordN (wordL b.length))).2.1)) else (0, [])) = _
  rw [hw, if_pos rfl, if_neg (by omega), opn_seal hb]
theorem opn_short {bs : List Nat} {n : Nat} (h : bs.length < n + 4) : opn bs n = (40, [], []) := by unfold opn; rw [if_pos h]
/-- A frame that is cut off. -/
theorem nxt_cut {b : List Nat} (hb : ∀ x ∈ b, x < 256) (hl : b.length ≤ 4194304) {k : Nat} (hk : k < (fr b).length) : nxt ((fr b).take k) = (40, []) := by
  rw [fr_len] at hk
  by_cases h8 : k < 8
  · unfold nxt
    rw [opn_short (n := 4) (by rw [List.length_take]; omega)]
    simp
  · have e : (fr b).take k = seal_ (wordL b.length) ++ (seal_ b).take (k - 8) := by
      have hs : (seal_ (wordL b.length)).length = 8 := rfl
      unfold fr
      rw [List.take_append, hs, List.take_of_length_le (by rw [hs]; omega)]
    have ho := opn_seal (wordL_byt' hl) ((seal_ b).take (k - 8))
    rw [wordL_len] at ho
    have hw : wordN (wordL b.length) = b.length := by have := wordN_wordL (z := b.length) (by omega) []; rwa [List.append_nil] at this
    unfold nxt
    rw [e, ho]
    show (if (0 : Nat) = 0 then (if 4194304 < wordN (wordL b.length) then ((60 : Nat), ([] : List Nat)) else ((opn ((seal_ b).take (k - 8)) (wordN (wordL b.length))).1, (opn ((seal_ b).take (k - 8)) (wordN (wordL b.length))).2.1)) else (0, [])) = _
    rw [hw, if_pos rfl, if_neg (by omega), opn_short (by rw [List.length_take]; omega)]
/-! ### Turned bits -/
end Go.Proofs.YtlnneacgllhdhaaGreatDoor
end
section
namespace Go.Proofs.YtlnneacgllhdhaaGreatDoor
open Go.RowKit OctMath
set_option linter.unusedVariables false
set_option linter.unusedSimpArgs false
/-- package errors' variable holds the handle of the type 'error'. -/
def GE (w : World) : Prop := w.cell? ⟨0, 0, none⟩ = some (.iface 216 (.agg #[.pointer (some ⟨1, 101, none⟩)]))
theorem GE.lt {w : World} (h : GE w) : 0 < w.heap.size := World.block_lt_of_cell? _ ⟨0, 0, none⟩ h
theorem GE.later {w w' : World} (h : GE w) (hb : Below w.heap.size w w') : GE w' := (hb.cell (p := ⟨0, 0, none⟩) h.lt).trans h
set_option maxRecDepth 100000 in
set_option maxHeartbeats 4000000 in
theorem wnumber_any (e : Int) (w : World) (hg : Hid (GE w)) : Calls Tryz.prog 38 #[.iface 125 (.int .i64 e)] w fun ev w' => ev = .returned (.int .i64 e) ∧ Below w.heap.size w w' := by
  have hb0 : Below w.heap.size w (w.alloc (.cells #[.int .i64 0] 125)) := (Below.refl _ _).alloc (Nat.le_refl _) _
  have hx : Blk (w.alloc (.cells #[.int .i64 0] 125)) w.heap.size 125 #[.int .i64 0] := Blk.new w _ _
  obtain ⟨w1, ew1⟩ : ∃ w1, w.alloc (.cells #[.int .i64 0] 125) = w1 := ⟨_, rfl⟩
  rw [ew1] at hb0 hx
  have HAS := Lib.hid (as_hit e ⟨w.heap.size, 0, none⟩ (.int .i64 0) w1 (hg.out.later hb0) (hx.cell 0) (hx.frozen 0))
  have HX := Lib.hid hx
  have HB := Lib.hid hb0
  clear hx hb0
  go_enter Tryz.func38, Tryz.ntmps38
  go_wp2_with (go_at_call 89; refine HAS.out.mono ?_; rintro ev w' ⟨rfl, hw⟩
               have h1 := ((HX.out.alloc (.cells #[.pointer (some ⟨w.heap.size, 0, none⟩)] 150)).alloc (.cells #[.pointer (some ⟨1, 150, none⟩), .pointer (some ⟨w1.heap.size, 0, none⟩), .int .u64 150] 192)).alloc (.cells #[.pointer (some ⟨1, 150, none⟩), .pointer (some ⟨w1.heap.size, 0, none⟩), .int .u64 150] 192) |>.alloc (.cells #[.int .i64 e] 125) |>.set_ 0 (.int .i64 e)
               have h2 := ((((HB.out.alloc HB.out.size (.cells #[.pointer (some ⟨w.heap.size, 0, none⟩)] 150)).alloc (by simp; have := HB.out.size; omega) (.cells #[.pointer (some ⟨1, 150, none⟩), .pointer (some ⟨w1.heap.size, 0, none⟩), .int .u64 150] 192)).alloc (by simp; have := HB.out.size; omega) (.cells #[.pointer (some ⟨1, 150, none⟩), .pointer (some ⟨w1.heap.size, 0, none⟩), .int .u64 150] 192)).alloc (by simp; have := HB.out.size; omega) (.cells #[.int .i64 e] 125)).trans ((Only.set_ _ w.heap.size 0 (.int .i64 e)).below (Nat.le_refl _))
               rw [hw] at h1 h2
               have c0 : w'.cell? ⟨w.heap.size, 0, none⟩ = some (.int .i64 e) := h1.cell 0
               have H2 := Lib.hid h2
               clear h1 h2 hw ew1)
  go_ret
  exact ⟨rfl, H2.out⟩
theorem ofInt_u32 (a : Nat) (h : a < 4294967296) : (BitVec.ofInt 32 (a : Int)).toNat = a := by
  rw [BitVec.toNat_ofInt]
  omega
theorem or_u32 (a b : Nat) (ha : a < 4294967296) (hb : b < 4294967296) : bits .or .u32 (a : Int) (b : Int) = ((a ||| b : Nat) : Int) := by
  show IntKind.u32.wrap ((BitVec.ofInt 32 (a : Int) ||| BitVec.ofInt 32 (b : Int)).toNat : Int) = _
  rw [BitVec.toNat_or, ofInt_u32 a ha, ofInt_u32 b hb]
  have h : a ||| b < 2 ^ 32 := Nat.or_lt_two_pow ha hb
  simp only [IntKind.wrap, IntKind.signed, IntKind.bits]
  simp
  omega
theorem or_step (x y k c : Nat) (hc : c = 2 ^ k) (hx : x < c) (hy : y * c < 4294967296 ∧ x < 4294967296) : bits .or .u32 (x : Int) ((y : Int) * (c : Int)) = ((x + y * c : Nat) : Int) := by
  have e : x ||| y * c = x + y * c := by
    subst hc
    have := Nat.two_pow_add_eq_or_of_lt (i := k) (b := x) hx y
    rw [Nat.or_comm, Nat.mul_comm y, ← this, Nat.add_comm]
  rw [show (y : Int) * (c : Int) = ((y * c : Nat) : Int) from by rw [Int.natCast_mul], or_u32 x (y * c) hy.2 hy.1, e]
set_option maxRecDepth 100000 in
set_option maxHeartbeats 4000000 in
theorem wword_any (A : Option Addr) (l cap : Nat) (xs : List Nat) (w : World) (hr : Hid (Reads w w.heap.size 1 A l (xs.map bv))) (hb : Byt xs) (h4 : 4 ≤ l) :
    Calls Tryz.prog 88 #[.slice A l cap] w fun ev w' => ev = .returned (.int .u32 (wordN xs : Int)) ∧ w.drew = w' := by
  have hl : xs.length = l := by simpa using hr.out.1
  obtain ⟨ad, hA, hlt, hc⟩ := hr.out.2 (by omega)
  subst hA
  have e : ∀ k, k < l → xs[k]? = some (xs.getD k 0) := fun k hk => by rw [List.getD_eq_getElem?_getD, List.getElem?_eq_getElem (by omega)]; rfl
  have g : ∀ k, k < l → w.cell? (ad.add k) = some (.int .u8 ((xs.getD k 0 : Nat) : Int)) := fun k hk => hc k _ (by rw [List.getElem?_map, e k hk]; rfl)
  have b : ∀ k, xs.getD k 0 < 256 := fun k => by
    rw [List.getD_eq_getElem?_getD]
    cases q : xs[k]? with
    | none => decide
    | some y => exact hb y (List.mem_of_getElem? q)
  have g0 := g 0 (by omega); have g1 := g 1 (by omega); have g2 := g 2 (by omega); have g3 := g 3 (by omega)
  rw [Addr.add_zero'] at g0
  rw [Addr.add_succ'] at g1 g2 g3
  have b0 := b 0; have b1 := b 1; have b2 := b 2; have b3 := b 3
  have HW := Lib.hid (show wordN xs = xs.getD 0 0 + 256 * xs.getD 1 0 + 65536 * xs.getD 2 0 + 16777216 * xs.getD 3 0 from rfl)
  generalize xs.getD 0 0 = a0 at *
  generalize xs.getD 1 0 = a1 at *
  generalize xs.getD 2 0 = a2 at *
  generalize xs.getD 3 0 = a3 at *
  have d0 : decide ((0 : Int) < (l : Int)) = true := decide_eq_true (by omega)
  have d1 : decide ((1 : Int) < (l : Int)) = true := decide_eq_true (by omega)
  have d2 : decide ((2 : Int) < (l : Int)) = true := decide_eq_true (by omega)
  have d3 : decide ((3 : Int) < (l : Int)) = true := decide_eq_true (by omega)
  clear e g b hc
  go_enter Tryz.func88, Tryz.ntmps88
  go_wp2_with fail
  go_region
  go_wp2
  go_ret
  refine ⟨?_, rfl⟩
  have e1 : bits .or .u32 (a0 : Int) ((a1 : Int) * 256) = ((a0 + a1 * 256 : Nat) : Int) := or_step a0 a1 8 256 rfl (by omega) (by omega)
  have e2 : bits .or .u32 ((a0 + a1 * 256 : Nat) : Int) ((a2 : Int) * 65536) = ((a0 + a1 * 256 + a2 * 65536 : Nat) : Int) := or_step _ a2 16 65536 rfl (by omega) (by omega)
  have e3 : bits .or .u32 ((a0 + a1 * 256 + a2 * 65536 : Nat) : Int) ((a3 : Int) * 16777216) = ((a0 + a1 * 256 + a2 * 65536 + a3 * 16777216 : Nat) : Int) := or_step _ a3 24 16777216 rfl (by omega) (by omega)
  show Ending.returned (.int .u32 (bits .or .u32 (bits .or .u32 (bits .or .u32 (a0 : Int) ((a1 : Int) * 256)) ((a2 : Int) * 65536)) ((a3 : Int) * 16777216))) = _
  rw [e1, e2, e3, HW.out]
  congr 2
  omega
end Go.Proofs.YtlnneacgllhdhaaGreatDoor
end
section
namespace Go.Proofs.YtlnneacgllhdhaaGreatDoor
open Go.RowKit
set_option linter.unusedVariables false
theorem Reads.first {w : World} {B n : Nat} {A : Option Addr} {xs : List Value} (h : Reads w B 1 A n xs) {k : Nat} (hk : k ≤ n) : Reads w B 1 A k (xs.take k) := by
  have hl : xs.length = n := by simpa using h.1
  refine ⟨by rw [List.length_take]; omega, fun h0 => ?_⟩
  obtain ⟨ad, rfl, hb, hc⟩ := h.2 (by omega)
  refine ⟨ad, rfl, hb, fun j u hu => hc j u ?_⟩
  rcases Nat.lt_or_ge j k with hj | hj
  · rw [List.getElem?_take_of_lt hj] at hu; exact hu
  · rw [List.getElem?_eq_none (by rw [List.length_take]; omega)] at hu; cases hu
/-- A part of a row: what the instruction answers, and what it reads. -/
theorem slice_mid {P : Program} {t e : TypeId} (ht : P.underlying t = some (.slice e)) (hi : (P.info? e).map (fun i => (i.zero, i.size, i.bytes)) = some (some (.int .u8 0), 1, 1)) {w : World} {B n cap : Nat} {A : Option Addr} {xs : List Nat} (h : Reads w B 1 A n (xs.map bv)) (j k : Nat) (hj : j ≤ k) (hk : k ≤ n) (hn : n ≤ cap) :
    ∃ A2, (∀ W : World, (Instr.sliceAt t (.slice A n cap) (some (.int .i64 (j : Int))) (some (.int .i64 (k : Int))) none).run P W = .ok (.slice A2 (k - j) (cap - j)) W) ∧
      (∀ w' : World, Reads w' B 1 A n (xs.map bv) → Reads w' B 1 A2 (k - j) (((xs.drop j).take (k - j)).map bv)) := by
  obtain ⟨i, hi, k2, k3, k4⟩ := info_parts hi
  refine ⟨if cap = j then A else A.map (·.add (j * 1)), fun W => slice_both ht hi k3 A n cap j k hj (by omega) W, fun w' h' => ?_⟩
  have hc := (h'.cut (k := j) (by omega) hn).first (k := k - j) (by omega)
  rw [Nat.mul_one, ← List.map_drop, ← List.map_take] at hc
  rw [Nat.mul_one]
  exact hc
end Go.Proofs.YtlnneacgllhdhaaGreatDoor
end
section
namespace Go.Proofs.YtlnneacgllhdhaaGreatDoor
open Go.RowKit OctMath
set_option linter.unusedVariables false
set_option linter.unusedSimpArgs false
theorem slice_tail {P : Program} {t e : TypeId} (ht : P.underlying t = some (.slice e)) (hi : (P.info? e).map (fun i => (i.zero, i.size, i.bytes)) = some (some (.int .u8 0), 1, 1)) {w : World} {B n cap : Nat} {A : Option Addr} {xs : List Nat} (h : Reads w B 1 A n (xs.map bv)) (j : Nat) (hj : j ≤ n) (hn : n ≤ cap) :
    ∃ A2, (∀ W : World, (Instr.sliceAt t (.slice A n cap) (some (.int .i64 (j : Int))) none none).run P W = .ok (.slice A2 (n - j) (cap - j)) W) ∧
      (∀ w' : World, Reads w' B 1 A n (xs.map bv) → Reads w' B 1 A2 (n - j) ((xs.drop j).map bv)) := by
  obtain ⟨i, hi, k2, k3, k4⟩ := info_parts hi
  refine ⟨if cap = j then A else A.map (·.add (j * 1)), fun W => slice_from ht hi k3 A n cap j hj hn W, fun w' h' => ?_⟩
  have hc := h'.cut (k := j) (by omega) hn
  rw [Nat.mul_one, ← List.map_drop] at hc
  rw [Nat.mul_one]
  exact hc
theorem slice_top {P : Program} {t e : TypeId} (ht : P.underlying t = some (.slice e)) (hi : (P.info? e).map (fun i => (i.zero, i.size, i.bytes)) = some (some (.int .u8 0), 1, 1)) (A : Option Addr) (n cap k : Nat) (hk : k ≤ cap) (W : World) :
    (Instr.sliceAt t (.slice A n cap) none (some (.int .i64 (k : Int))) (some (.int .i64 (k : Int)))).run P W = .ok (.slice A k k) W := by
  obtain ⟨i, hi, k2, k3, k4⟩ := info_parts hi
  have e1 : 0 ≤ (k : Int) ∧ (k : Int) ≤ cap := by omega
  have e2 : (if k = 0 then A else A.map (·.add 0)) = A := by
    split
    · rfl
    · cases A with
      | none => rfl
      | some a => show some (a.add 0) = some a; rw [Addr.add_zero']
  simp [Instr.sliceAt, run_underlying ht, Instr.slice, Instr.sliceBounds, Instr.sliceBound, asIntOf, sizeOf, typeInfo, hi, k3, e1]
  rw [if_pos hk, e2]
/-- A row of bytes. -/
def RdB (w : World) (A : Option Addr) (l cap : Nat) (xs : List Nat) : Prop := Reads w w.heap.size 1 A l (xs.map bv) ∧ Byt xs ∧ l ≤ cap ∧ cap ≤ maxLen
theorem RdB.later {w w' : World} {A : Option Addr} {l cap : Nat} {xs : List Nat} (h : RdB w A l cap xs) (hb : Below w.heap.size w w') : RdB w' A l cap xs := ⟨h.1.later hb, h.2⟩
theorem RdB.len {w : World} {A : Option Addr} {l cap : Nat} {xs : List Nat} (h : RdB w A l cap xs) : xs.length = l := by simpa using h.1.1
def RetOpn (xs : List Nat) (n : Nat) (w : World) (e : Ending) (w' : World) : Prop := Below w.heap.size w w' ∧
  (((opn xs n).1 ≠ 0 ∧ e = .returned (.tuple #[.slice none 0 0, .slice none 0 0, .iface 125 (.int .i64 ((opn xs n).1 : Int))])) ∨
   ((opn xs n).1 = 0 ∧ ∃ A1 c1 A2 l2 c2, e = .returned (.tuple #[.slice A1 n c1, .slice A2 l2 c2, .nilIface]) ∧ RdB w' A1 n c1 (xs.take n) ∧ RdB w' A2 l2 c2 (xs.drop (n + 4))))
set_option maxRecDepth 100000 in
set_option maxHeartbeats 4000000 in
theorem opened_any (A : Option Addr) (l cap : Nat) (xs : List Nat) (n : Nat) (w : World) (hr : Hid (RdB w A l cap xs)) (hn : n ≤ 4194304) :
    Calls Tryz.prog 87 #[.slice A l cap, .int .i64 (n : Int)] w (RetOpn xs n w) := by
  have hl := hr.out.len
  have hcm := hr.out.2.2.2
  have hlc := hr.out.2.2.1
  unfold maxLen at hcm
  by_cases h1 : l < n + 4
  · have HE := Lib.hid (opn_short (bs := xs) (n := n) (by omega))
    have d1 : decide ((l : Int) - 4 < (n : Int)) = true := decide_eq_true (by omega)
    have d2 : decide ((l : Int) < (n : Int) + 4) = true := decide_eq_true (by omega)
    clear h1
    go_enter Tryz.func87, Tryz.ntmps87
    go_wp2
    go_ret3
    refine ⟨Below.refl _ _, .inl ?_⟩
    rw [HE.out]
    exact ⟨by decide, rfl⟩
  · have d1 : decide ((l : Int) - 4 < (n : Int)) = false := decide_eq_false (by omega)
    have d2 : decide ((l : Int) < (n : Int) + 4) = false := decide_eq_false (by omega)
    have HT := Lib.hid (slice_top Tryz.underlying33 Tryz.infoU8 A l cap n (by omega))
    have ht := HT.out
    obtain ⟨A2, hs2, hr2⟩ := slice_tail Tryz.underlying33 Tryz.infoU8 hr.out.1 n (by omega) hlc
    have hR2 := hr2 w hr.out.1
    have hb2 : Byt (xs.drop n) := fun x hx => hr.out.2.1 x (List.mem_of_mem_drop hx)
    have hb1 : Byt (xs.take n) := fun x hx => hr.out.2.1 x (List.mem_of_mem_take hx)
    have hR1 : Reads w w.heap.size 1 A n ((xs.take n).map bv) := by
      have := hr.out.1.first (k := n) (by omega)
      rw [← List.map_take] at this
      exact this
    have HW := Lib.hid (fun W h => wword_any A2 (l - n) (cap - n) (xs.drop n) W h hb2 (by omega))
    have HC := Lib.hid (fun W h => crc_any A n n (xs.take n) W hb1 (by rw [List.length_take]; omega) h (by unfold maxLen; omega))
    obtain ⟨A3, hs3, hr3⟩ := slice_tail (cap := cap - n) Tryz.underlying33 Tryz.infoU8 hR2 4 (by omega) (by omega)
    have hs4 : ∀ W : World, (Instr.sliceAt 33 (.slice A2 (l - n) (cap - n)) (some (.int .i64 4)) none none).run Tryz.prog W = .ok (.slice A3 (l - n - 4) (cap - n - 4)) W := hs3
    have HR1 := Lib.hid hR1
    have HR2 := Lib.hid hR2
    have HR3 := Lib.hid hr3
    have HB := Lib.hid (And.intro hb1 (And.intro hb2 hr.out.2.1))
    have HO := Lib.hid (show opn xs n = if wordN (xs.drop n) = crc (xs.take n) then (0, xs.take n, xs.drop (n + 4)) else (61, [], []) from by unfold opn; rw [if_neg (by omega)])
    have HL := Lib.hid (And.intro h1 (And.intro hlc hcm))
    clear hR1 hR2 hr2 hr3 hb1 hb2 hs3 h1
    by_cases hc : wordN (xs.drop n) = crc (xs.take n)
    · rw [if_pos hc] at HO
      have d3 : decide ((wordN (xs.drop n) : Int) ≠ (crc (xs.take n) : Int)) = false := by simp [hc]
      rw [hc] at HW
      clear hc d3
      go_enter Tryz.func87, Tryz.ntmps87
      go_wp2_with fail
      go_region
      go_wp2_with (first
        | (go_at_call 88; refine (HW.out _ (Lib.hid HR2.out.drew)).mono ?_; rintro ev w1 ⟨rfl, rfl⟩)
        | (go_at_call 86; refine (HC.out _ HR1.out.drew.drew).mono ?_; rintro ev w2 ⟨rfl, hb⟩; have HB2 := Lib.hid hb; clear hb))
      go_region
      go_wp2
      go_ret3
      have hB : Below w.heap.size w w2.drew := ((Below.refl _ _).drew.drew.trans HB2.out).drew
      refine ⟨hB, .inr ?_⟩
      rw [HO.out]
      have h3 := HR3.out w HR2.out
      rw [List.drop_drop] at h3
      exact ⟨rfl, A, n, A3, l - n - 4, cap - n - 4, rfl, ⟨HR1.out.later hB, HB.out.1, Nat.le_refl _, by unfold maxLen; omega⟩, ⟨h3.later hB, fun x hx => HB.out.2.2 x (List.mem_of_mem_drop hx), by have := HL.out; omega, by have := HL.out; unfold maxLen; omega⟩⟩
    · rw [if_neg hc] at HO
      have hne : (wordN (xs.drop n) : Int) ≠ (crc (xs.take n) : Int) := fun h => hc (by exact_mod_cast h)
      obtain ⟨c1, hc1⟩ : ∃ c, wordN (xs.drop n) = c := ⟨_, rfl⟩
      obtain ⟨c2, hc2⟩ : ∃ c, crc (xs.take n) = c := ⟨_, rfl⟩
      rw [hc1] at HW hne
      rw [hc2] at HC hne
      have d3 : ((c1 : Int) == (c2 : Int)) = false := by rw [beq_eq_false_iff_ne]; exact hne
      have d4 : ((c1 : Int) != (c2 : Int)) = true := by rw [bne, d3]; rfl
      have d5 : decide ((c1 : Int) = (c2 : Int)) = false := decide_eq_false hne
      have d6 : decide (c1 = c2) = false := decide_eq_false (fun h => hne (by rw [h]))
      have d7 : (c1 == c2) = false := by rw [beq_eq_false_iff_ne]; exact fun h => hne (by rw [h])
      clear hc hne hc1 hc2
      go_enter Tryz.func87, Tryz.ntmps87
      go_wp2_with fail
      go_region
      go_wp2_with (first
        | (go_at_call 88; refine (HW.out _ (Lib.hid HR2.out.drew)).mono ?_; rintro ev w1 ⟨rfl, rfl⟩)
        | (go_at_call 86; refine (HC.out _ HR1.out.drew.drew).mono ?_; rintro ev w2 ⟨rfl, hb⟩; have HB2 := Lib.hid hb; clear hb))
      go_ret3
      have hB : Below w.heap.size w w2 := (Below.refl _ _).drew.drew.trans HB2.out
      refine ⟨hB, .inl ?_⟩
      rw [HO.out]
      exact ⟨by decide, rfl⟩
end Go.Proofs.YtlnneacgllhdhaaGreatDoor
end
section
namespace Go.Proofs.YtlnneacgllhdhaaGreatDoor
open Go.RowKit OctMath
set_option linter.unusedVariables false
set_option linter.unusedSimpArgs false
def RetNxt (xs : List Nat) (w : World) (e : Ending) (w' : World) : Prop := Below w.heap.size w w' ∧
  (((nxt xs).1 ≠ 0 ∧ e = .returned (.tuple #[.slice none 0 0, .iface 125 (.int .i64 ((nxt xs).1 : Int))])) ∨
   ((nxt xs).1 = 0 ∧ ∃ A1 n c1, e = .returned (.tuple #[.slice A1 n c1, .nilIface]) ∧ RdB w' A1 n c1 (nxt xs).2))
theorem nxt_bad {s : List Nat} (h : (opn s 4).1 ≠ 0) : nxt s = ((opn s 4).1, []) := by unfold nxt; rw [if_neg h]
theorem nxt_big {s : List Nat} (h : (opn s 4).1 = 0) (h2 : 4194304 < wordN (opn s 4).2.1) : nxt s = (60, []) := by unfold nxt; rw [if_pos h, if_pos h2]
theorem nxt_in {s : List Nat} (h : (opn s 4).1 = 0) (h2 : ¬ 4194304 < wordN (opn s 4).2.1) : nxt s = ((opn (opn s 4).2.2 (wordN (opn s 4).2.1)).1, (opn (opn s 4).2.2 (wordN (opn s 4).2.1)).2.1) := by unfold nxt; rw [if_pos h, if_neg h2]
theorem opn_parts {s : List Nat} {n : Nat} (h : (opn s n).1 = 0) : opn s n = (0, s.take n, s.drop (n + 4)) := by
  unfold opn at h ⊢
  split
  · rename_i h1; rw [if_pos h1] at h; cases h
  · rename_i h1
    rw [if_neg h1] at h
    split
    · rfl
    · rename_i h2; rw [if_neg h2] at h; cases h
set_option maxRecDepth 100000 in
set_option maxHeartbeats 4000000 in
theorem next_any (A : Option Addr) (l cap : Nat) (xs : List Nat) (w : World) (hr : Hid (RdB w A l cap xs)) : Calls Tryz.prog 37 #[.slice A l cap] w (RetNxt xs w) := by
  have HO1 := Lib.hid (opened_any A l cap xs 4 w hr (by omega))
  go_enter Tryz.func37, Tryz.ntmps37
  go_wp2_with fail
  refine HO1.out.mono ?_
  rintro e w1 ⟨hb, ⟨h0, rfl⟩ | ⟨h0, A1, c1, A2, l2, c2, rfl, r1, r2⟩⟩
  · have HN := Lib.hid (nxt_bad h0)
    have HB := Lib.hid hb
    have HH := Lib.hid h0
    clear hb h0 HO1
    generalize (opn xs 4).1 = er at *
    go_wp2
    go_ret2
    refine ⟨HB.out, .inl ?_⟩
    rw [HN.out]
    exact ⟨HH.out, rfl⟩
  · have hp := opn_parts h0
    have HB := Lib.hid hb
    have R1 := Lib.hid r1
    have R2 := Lib.hid r2
    have HW := Lib.hid (wword_any A1 4 c1 (xs.take 4) w1 (Lib.hid r1.1) r1.2.1 (Nat.le_refl _))
    have hbig := fun h => nxt_big h0 (by rw [hp]; exact h)
    have hin := fun h => nxt_in h0 (by rw [hp]; exact h)
    rw [hp] at hin
    simp only at hin
    have hw4 : (wordN (xs.take 4)) < 4294967296 := by
      have hy := r1.2.1
      have hl4 := r1.len
      match hx : xs.take 4, hl4 with
      | [a, b, c, d], _ =>
        have ha := hy a (by rw [hx]; simp)
        have hb' := hy b (by rw [hx]; simp)
        have hc := hy c (by rw [hx]; simp)
        have hd := hy d (by rw [hx]; simp)
        show a + 256 * b + 65536 * c + 16777216 * d < 4294967296
        omega
    generalize wordN (xs.take 4) = n at *
    clear hp h0 hb r1 r2 HO1
    by_cases hn : 4194304 < n
    · have HN := Lib.hid (hbig hn)
      have d1 : decide ((n : Int) > 4194304) = true := decide_eq_true (by omega)
      have d2 : decide (4194304 < n) = true := decide_eq_true hn
      clear hbig hin hn
      go_wp2_with (go_at_call 88; refine HW.out.mono ?_; rintro ev w2 ⟨rfl, rfl⟩)
      go_ret2
      refine ⟨HB.out.drew, .inl ?_⟩
      rw [HN.out]
      exact ⟨by decide, rfl⟩
    · have HN := Lib.hid (hin hn)
      have d1 : decide ((n : Int) > 4194304) = false := decide_eq_false (by omega)
      have d2 : decide (4194304 < n) = false := decide_eq_false hn
      have hle : n ≤ 4194304 := by omega
      have HO2 := Lib.hid (fun W h => opened_any A2 l2 c2 (xs.drop (4 + 4)) n W h hle)
      clear hbig hin hn
      go_wp2_with (go_at_call 88; refine HW.out.mono ?_; rintro ev w2 ⟨rfl, rfl⟩)
      refine (HO2.out _ (Lib.hid (R2.out.later ((Below.refl _ _).drew)))).mono ?_
      rintro e w3 ⟨hb, ⟨h0, rfl⟩ | ⟨h0, A3, c3, A4, l4, c4, rfl, r1, r2⟩⟩
      · have HB3 := Lib.hid (HB.out.drew.trans (hb.mono HB.out.size))
        have HH := Lib.hid h0
        clear hb h0
        generalize (opn (xs.drop (4 + 4)) n).1 = er at *
        go_wp2
        go_ret2
        refine ⟨HB3.out, .inl ?_⟩
        rw [HN.out]
        exact ⟨HH.out, rfl⟩
      · have HB3 := Lib.hid (HB.out.drew.trans (hb.mono HB.out.size))
        have R3 := Lib.hid r1
        have hp := opn_parts h0
        have HP := Lib.hid hp
        clear hb r1 r2 h0 hp
        go_wp2
        go_ret2
        refine ⟨HB3.out, .inr ?_⟩
        rw [HN.out, HP.out]
        exact ⟨rfl, A3, n, c3, rfl, R3.out⟩
end Go.Proofs.YtlnneacgllhdhaaGreatDoor
end
section
namespace Go.Proofs.YtlnneacgllhdhaaGreatDoor
open Go.RowKit OctMath
set_option linter.unusedVariables false
set_option linter.unusedSimpArgs false
/-- What stands at a place of a stream: the error, the bytes, the place behind. -/
def frAt (xs : List Nat) (at_ : Int) : Nat × List Nat × Int :=
  if at_ < 0 ∨ (xs.length : Int) < at_ then (2, [], 0) else if (nxt (xs.drop at_.toNat)).1 = 0 then (0, (nxt (xs.drop at_.toNat)).2, at_ + (nxt (xs.drop at_.toNat)).2.length + 12) else ((nxt (xs.drop at_.toNat)).1, [], 0)
theorem frAt_out {xs : List Nat} {at_ : Int} (h : at_ < 0 ∨ (xs.length : Int) < at_) : frAt xs at_ = (2, [], 0) := by unfold frAt; rw [if_pos h]
theorem frAt_ok {xs : List Nat} {p : Nat} (h : p ≤ xs.length) (h2 : (nxt (xs.drop p)).1 = 0) : frAt xs (p : Int) = (0, (nxt (xs.drop p)).2, (p : Int) + (nxt (xs.drop p)).2.length + 12) := by
  unfold frAt; rw [if_neg (by omega), Int.toNat_natCast, if_pos h2]
theorem frAt_bad {xs : List Nat} {p : Nat} (h : p ≤ xs.length) (h2 : (nxt (xs.drop p)).1 ≠ 0) : frAt xs (p : Int) = ((nxt (xs.drop p)).1, [], 0) := by
  unfold frAt; rw [if_neg (by omega), Int.toNat_natCast, if_neg h2]
theorem opn_room {s : List Nat} {n : Nat} (h : (opn s n).1 = 0) : n + 4 ≤ s.length := by
  unfold opn at h
  by_cases h1 : s.length < n + 4
  · rw [if_pos h1] at h; cases h
  · omega
theorem nxt_len {s : List Nat} (h : (nxt s).1 = 0) : (nxt s).2.length + 12 ≤ s.length := by
  by_cases h0 : (opn s 4).1 = 0
  · by_cases h1 : 4194304 < wordN (opn s 4).2.1
    · rw [nxt_big h0 h1] at h; cases h
    · rw [nxt_in h0 h1] at h ⊢
      have r1 := opn_room h0
      have r2 := opn_room h
      rw [opn_parts h]
      rw [opn_parts h0] at r2 ⊢
      simp only [List.length_drop, List.length_take] at r2 ⊢
      omega
  · rw [nxt_bad h0] at h; exact absurd h h0
def RetFr (xs : List Nat) (at_ : Int) (w : World) (e : Ending) (w' : World) : Prop := Below w.heap.size w w' ∧
  ∃ A1 n c1, e = .returned (.tuple #[.slice A1 n c1, .int .i64 (frAt xs at_).2.2, .int .i64 ((frAt xs at_).1 : Int)]) ∧ RdB w' A1 n c1 (frAt xs at_).2.1
theorem rdb_nil (w : World) : RdB w none 0 0 [] := ⟨Reads.none_, fun x h => (by cases h), Nat.le_refl _, (by unfold maxLen; omega)⟩
set_option maxRecDepth 100000 in
set_option maxHeartbeats 4000000 in
theorem Next_any (A : Option Addr) (l cap : Nat) (xs : List Nat) (at_ : Int) (w : World) (hr : Hid (RdB w A l cap xs)) (hg : Hid (GE w)) (hmx : l ≤ 140737488355328) :
    Calls Tryz.prog 15 #[.slice A l cap, .int .i64 at_] w (RetFr xs at_ w) := by
  have hl := hr.out.len
  by_cases ho : at_ < 0 ∨ (xs.length : Int) < at_
  · have HE := Lib.hid (frAt_out ho)
    rw [hl] at ho
    by_cases h1 : at_ < 0
    · have d1 : decide (at_ < 0) = true := decide_eq_true h1
      clear ho h1 hmx hl
      go_enter Tryz.func15, Tryz.ntmps15
      go_wp2
      go_ret3
      refine ⟨Below.refl _ _, none, 0, 0, ?_, ?_⟩
      · rw [HE.out]; rfl
      · rw [HE.out]; exact rdb_nil _
    · have d1 : decide (at_ < 0) = false := decide_eq_false h1
      have d2 : decide (at_ > (l : Int)) = true := decide_eq_true (by omega)
      have d3 : decide ((l : Int) < at_) = true := decide_eq_true (by omega)
      clear ho h1 hmx hl
      go_enter Tryz.func15, Tryz.ntmps15
      go_wp2
      go_ret3
      refine ⟨Below.refl _ _, none, 0, 0, ?_, ?_⟩
      · rw [HE.out]; rfl
      · rw [HE.out]; exact rdb_nil _
  · obtain ⟨p, rfl⟩ := Int.eq_ofNat_of_zero_le (show 0 ≤ at_ by omega)
    have d1 : decide ((p : Int) < 0) = false := decide_eq_false (by omega)
    have d2 : decide ((p : Int) > (l : Int)) = false := decide_eq_false (by omega)
    have d3 : decide ((l : Int) < (p : Int)) = false := decide_eq_false (by omega)
    have d4 : decide (l < p) = false := decide_eq_false (by omega)
    obtain ⟨A2, hs2, hr2⟩ := slice_tail Tryz.underlying33 Tryz.infoU8 hr.out.1 p (by omega) hr.out.2.2.1
    have hb2 : Byt (xs.drop p) := fun x hx => hr.out.2.1 x (List.mem_of_mem_drop hx)
    have HNX := Lib.hid (next_any A2 (l - p) (cap - p) (xs.drop p) w (Lib.hid ⟨hr2 w hr.out.1, hb2, by have := hr.out.2.2.1; omega, by have := hr.out.2.2.2; omega⟩))
    have HOK := Lib.hid (fun h => frAt_ok (xs := xs) (p := p) (by omega) h)
    have HBAD := Lib.hid (fun h => frAt_bad (xs := xs) (p := p) (by omega) h)
    have HLN := Lib.hid (fun h => nxt_len (s := xs.drop p) h)
    have hpl : p ≤ l := by omega
    have HDL := Lib.hid (show (xs.drop p).length = l - p from by rw [List.length_drop, hl])
    clear ho hr2 hb2 hl
    go_enter Tryz.func15, Tryz.ntmps15
    go_wp2_with fail
    refine HNX.out.mono ?_
    rintro e w1 ⟨hb, ⟨h0, rfl⟩ | ⟨h0, A1, n, c1, rfl, r1⟩⟩
    · have HE := Lib.hid (HBAD.out h0)
      have HB := Lib.hid hb
      clear hb h0 HBAD HOK HLN
      generalize (nxt (xs.drop p)).1 = er at *
      go_wp2_with (go_at_call 38; refine (wnumber_any (er : Int) _ (Lib.hid (hg.out.later HB.out))).mono ?_; rintro ev w2 ⟨rfl, hb⟩; have HB2 := Lib.hid (HB.out.trans (hb.mono HB.out.size)); clear hb)
      go_ret3
      refine ⟨HB2.out, none, 0, 0, ?_, ?_⟩
      · rw [HE.out]; rfl
      · rw [HE.out]; exact rdb_nil _
    · have HE := Lib.hid (HOK.out h0)
      have HB := Lib.hid hb
      have R1 := Lib.hid r1
      have hnl := r1.len
      have hln := HLN.out h0
      rw [HDL.out] at hln
      rw [hnl] at hln
      have HNL := Lib.hid hnl
      clear hb h0 HBAD HOK HLN r1 hnl
      generalize (nxt (xs.drop p)).2 = ys at *
      go_wp2_with (at_builtin
                   refine wpl_append rfl (.const (.slice none 0 0)) (.tmp 28) _ rfl w1 w1.heap.size 5 _ 1 1 Tryz.underlying33 Tryz.infoU8 rfl (by decide) (.slice none 0 0) 0 [] rfl ⟨by simp, .inl ⟨rfl, rfl⟩⟩ w1.heap.size A1 n c1 (ys.map bv) rfl R1.out.1 (bv_one ys) (by omega) (by decide) (Below.refl _ _) (Nat.le_refl _) ?_
                   intro v2 w2 hh
                   obtain ⟨A3, c3, rfl, hc3, hm3⟩ := own_slice hh.out.1
                   have HR3 := Lib.hid (Reads.of_own hh.out.1)
                   have HB2 := Lib.hid (HB.out.trans (hh.out.2.1.mono HB.out.size))
                   have HC3 := Lib.hid (And.intro hc3 hm3)
                   clear hh hc3 hm3)
      go_ret3
      refine ⟨HB2.out, A3, n, c3, ?_, ?_⟩
      · show Ending.returned (.tuple #[.slice A3 n c3, .int .i64 ((p : Int) + (n : Int) + 8 + 4), .int .i64 0]) = _
        rw [HE.out]
        simp only
        rw [HNL.out, show (p : Int) + (n : Int) + 8 + 4 = (p : Int) + (n : Int) + 12 from by omega]
        rfl
      · rw [HE.out]
        have h := HR3.out
        rw [Nat.zero_add, List.nil_append] at h
        have h2 := HC3.out
        rw [Nat.zero_add] at h2
        exact ⟨h, R1.out.2.1, h2.1, h2.2⟩
end Go.Proofs.YtlnneacgllhdhaaGreatDoor
end
section
namespace Go.Proofs.YtlnneacgllhdhaaGreatDoor
open Go.RowKit OctMath
set_option linter.unusedVariables false
set_option linter.unusedSimpArgs false
theorem row_grown {w w' : World} {row : Option Nat} (hg : w.grownBy w' row) {size n : Nat} {A : Option Addr} {xs : List Value} (hr : Reads w w.heap.size size A n xs) (hne : 0 < n → ∀ ad, A = some ad → some ad.block ≠ row) : Reads w' w'.heap.size size A n xs := by
  refine ⟨hr.1, fun hn => ?_⟩
  obtain ⟨ad, e, hb, hc⟩ := hr.2 hn
  refine ⟨ad, e, Nat.lt_of_lt_of_le hb hg.size, fun j u hu => ?_⟩
  rw [← hc j u hu]
  refine World.cell?_of_block ?_
  rw [block_of_add]
  exact hg.block _ hb (hne hn ad e)
theorem own_below {w w' : World} {base size n : Nat} {t : TypeId} {v : Value} {xs : List Value} (h : w.ownsRow base t size v n xs) (hb : Below w.heap.size w w') : w'.ownsRow base t size v n xs := by
  obtain ⟨hl, h0⟩ := h
  refine ⟨hl, ?_⟩
  rcases h0 with h0 | ⟨g, cap, cur, rfl, h1, h2, h3⟩
  · exact .inl h0
  · have hlt : g < w.heap.size := by
      rcases Nat.lt_or_ge g w.heap.size with h | h
      · exact h
      · rw [Array.getElem?_eq_none h] at h2; cases h2
    exact .inr ⟨g, cap, cur, rfl, h1, (hb.block g hlt).trans h2, h3⟩
def RetSeal (base : Nat) (w0 : World) (n : Nat) (xs : List Nat) (e : Ending) (w' : World) : Prop :=
  ∃ v, e = .returned v ∧ w'.ownsRow base 5 1 v n (xs.map bv) ∧ Below base w0 w' ∧ base ≤ w'.heap.size
set_option maxRecDepth 100000 in
set_option maxHeartbeats 4000000 in
theorem sealed_any (base : Nat) (w0 : World) (A : Option Addr) (n cap : Nat) (xs : List Nat) (B : Option Addr) (m c : Nat) (ys : List Nat) (w : World) (ho : Hid (w.ownsRow base 5 1 (.slice A n cap) n (xs.map bv))) (hr : Hid (Reads w w.heap.size 1 B m (ys.map bv))) (hne : Hid (0 < m → ∀ ad, B = some ad → some ad.block ≠ (Value.slice A n cap).ownBlock)) (hbel : Hid (Below base w0 w)) (hbase : Hid (base ≤ w.heap.size)) (hy : Byt ys) (hn : n + m + 4 ≤ 140737488355328) :
    Calls Tryz.prog 35 #[.slice A n cap, .slice B m c] w (RetSeal base w0 (n + m + 4) (xs ++ seal_ ys)) := by
  obtain ⟨i0, hi0, hz0, hz1, hz2⟩ := info_parts Tryz.infoU8
  have hml : ys.length = m := by simpa using hr.out.1
  have HML := Lib.hid hml
  have HSE := Lib.hid (show xs ++ seal_ ys = (xs ++ ys) ++ wordL (crc ys) from by unfold seal_; rw [List.append_assoc])
  have hcl := crc_lt hy
  go_enter Tryz.func35, Tryz.ntmps35
  go_wp2_with (first
    | (at_builtin
       refine wpList_append_any _ rfl (.tmp 5) (.tmp 6) _ rfl base 5 i0 (.int .u8 0) 1 1 Tryz.underlying33 hi0 hz0 hz1 hz2 rfl (by decide) (.slice A n cap) n (xs.map bv) rfl ho.out w.heap.size B m c (ys.map bv) rfl hr.out (bv_one ys) (by unfold maxLen; omega) (by omega) hbase.out ?_
       intro v1 w1 k1 k2 k3
       obtain ⟨A1, c1, rfl, -, -⟩ := own_slice k1
       have HO1 := Lib.hid k1
       have HR1 := Lib.hid (row_grown k2 hr.out hne.out)
       have HB1 := Lib.hid (bel_grown_own hbel.out hbase.out ho.out k2)
       have HZ1 := Lib.hid (Nat.le_trans hbase.out k2.size)
       clear k1 k2 k3)
    | (go_at_call 86; refine (crc_any B c m ys _ hy HML.out HR1.out (by unfold maxLen; omega)).mono ?_; rintro ev w2 ⟨rfl, hb⟩
       have HO2 := Lib.hid (own_below HO1.out hb)
       have HB2 := Lib.hid (HB1.out.trans (hb.mono HZ1.out))
       have HZ2 := Lib.hid (Nat.le_trans HZ1.out hb.size)
       clear hb)
    | (go_at_call 36; refine (word_any (crc ys) _ hcl).mono ?_; rintro ev w3 ⟨A3, n3, c3, rfl, r3, hb, -, -⟩
       obtain rfl : n3 = 4 := (by have := r3.out.1; simp [wordL] at this; omega)
       have HO3 := Lib.hid (own_below HO2.out hb)
       have HB3 := Lib.hid (HB2.out.trans (hb.mono HZ2.out))
       have HZ3 := Lib.hid (Nat.le_trans HZ2.out hb.size)
       have HR3 := r3
       clear hb r3)
    | (at_builtin
       refine wpl_append rfl (.tmp 7) (.tmp 10) _ rfl w0 base 5 _ 1 1 Tryz.underlying33 Tryz.infoU8 rfl (by decide) (.slice A1 (n + m) c1) (n + m) (xs.map bv ++ ys.map bv) rfl HO3.out w3.heap.size A3 4 c3 ((wordL (crc ys)).map bv) rfl HR3.out (bv_one _) (by omega) (by decide) HB3.out HZ3.out ?_
       intro v4 w4 hh
       obtain ⟨A4, c4, rfl, -, -⟩ := own_slice hh.out.1))
  go_ret
  refine ⟨_, rfl, ?_, hh.out.2.1, hh.out.2.2⟩
  rw [HSE.out, List.map_append, List.map_append]
  exact hh.out.1
end Go.Proofs.YtlnneacgllhdhaaGreatDoor
end
