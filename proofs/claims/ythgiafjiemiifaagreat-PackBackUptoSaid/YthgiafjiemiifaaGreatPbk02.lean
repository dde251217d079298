/-
  PLAIN LAWS of the sum CRC-32C: one step a bit, linear over xor; by the table; a turned burst of at most 32 bit; The walks that put: put, PutNumber, PutInt, PutBytes, PutFlag, Word; and the reference's; The walks of the reference's puts, of Word (both), and of Copy and Same. (joined out of OctMath, OctW3, OctW4 by shake.py)
-/
import Derived.Test.YthgiafjiemiifaaGreatPbk01
section
namespace Go.Proofs.YthgiafjiemiifaaGreat.OctMath
/-- The polynomial. -/
def PL : Nat := 2197175160
def stp (c : Nat) : Nat := if c % 2 = 1 then c / 2 ^^^ PL else c / 2
theorem x4 (a b c d : Nat) : (a ^^^ b) ^^^ (c ^^^ d) = (a ^^^ c) ^^^ (b ^^^ d) := by
  rw [Nat.xor_assoc, Nat.xor_assoc, ← Nat.xor_assoc b c d, Nat.xor_comm b c, Nat.xor_assoc c b d]
/-! ### Numbers: seven bits a byte -/
def putN (n : Nat) : List Nat := if h : n < 128 then [n] else (n % 128 + 128) :: putN (n / 128)
termination_by n
decreasing_by omega
theorem putN_small {n : Nat} (h : n < 128) : putN n = [n] := by rw [putN, dif_pos h]
theorem putN_big {n : Nat} (h : ¬ n < 128) : putN n = (n % 128 + 128) :: putN (n / 128) := by rw [putN, dif_neg h]
theorem putN_byt (n : Nat) : ∀ x ∈ putN n, x < 256 := by
  induction n using Nat.strongRecOn with
  | _ n ih =>
    by_cases h : n < 128
    · rw [putN_small h]; intro x hx; simp at hx; omega
    · rw [putN_big h]
      intro x hx
      rcases List.mem_cons.1 hx with rfl | hx
      · omega
      · exact ih (n / 128) (by omega) x hx
theorem putN_len (k : Nat) : ∀ n, n < 128 ^ (k + 1) → (putN n).length ≤ k + 1 := by
  induction k with
  | zero => intro n h; rw [putN_small (by simpa using h)]; simp
  | succ k ih =>
    intro n h
    by_cases h1 : n < 128
    · rw [putN_small h1]; simp
    · rw [putN_big h1, List.length_cons]
      have := ih (n / 128) (by rw [Nat.pow_succ] at h; exact (Nat.div_lt_iff_lt_mul (by omega)).2 h)
      omega
theorem putN_pos (n : Nat) : 0 < (putN n).length := by
  by_cases h : n < 128
  · rw [putN_small h]; simp
  · rw [putN_big h]; simp
theorem putN_len10 {n : Nat} (h : n < 18446744073709551616) : (putN n).length ≤ 10 := putN_len 9 n (Nat.lt_of_lt_of_le h (by decide))
/-- A number with a sign. -/
def zz (n : Int) : Nat := if 0 ≤ n then (2 * n).toNat else (-2 * n - 1).toNat
/-- Reading: place, rest, what was read so far; answers the number, how many bytes, the error. -/
def rdF : List Nat → Nat → Nat → Nat × Nat × Nat
  | [], _, _ => (0, 0, 40)
  | c :: cs, i, acc =>
    if (i = 9 ∧ 1 < c) ∨ (0 < i ∧ c = 0) then (0, 0, 41)
    else if c < 128 then (acc + c % 128 * 128 ^ i, i + 1, 0)
    else rdF cs (i + 1) (acc + c % 128 * 128 ^ i)
/-- What Number answers: the number, the place behind it, the error. -/
def rdN (bs : List Nat) (at_ : Int) : Nat × Int × Nat :=
  if at_ < 0 ∨ (bs.length : Int) < at_ then (0, 0, 2)
  else
    let r := rdF (bs.drop at_.toNat) 0 0
    if r.2.2 = 0 then (r.1, at_ + r.2.1, 0) else (0, 0, r.2.2)
/-- The number with a sign that a number writes. -/
def unz (n : Nat) : Int := if n % 2 = 0 then (n / 2 : Nat) else -((n / 2 : Nat) : Int) - 1
/-- What Bytes answers. -/
def rdB (bs : List Nat) (at_ most : Int) : List Nat × Int × Nat :=
  let r := rdN bs at_
  if r.2.2 ≠ 0 then ([], 0, r.2.2)
  else if most < 0 ∨ most < r.1 ∨ (bs.length : Int) - r.2.1 < r.1 then ([], 0, 40)
  else ((bs.drop r.2.1.toNat).take r.1, r.2.1 + r.1, 0)
theorem rdF_lt (cs : List Nat) : ∀ i acc, i ≤ 9 → acc < 128 ^ i → (∀ x ∈ cs, x < 256) → (rdF cs i acc).1 < 18446744073709551616 ∧ (rdF cs i acc).2.1 ≤ i + cs.length := by
  induction cs with
  | nil => intro i acc _ _ _; simp [rdF]
  | cons c cs ih =>
    intro i acc hi ha hx
    rw [rdF]
    by_cases hbad : (i = 9 ∧ 1 < c) ∨ (0 < i ∧ c = 0)
    · rw [if_pos hbad]; simp
    · rw [if_neg hbad]
      have hd : c % 128 < 128 := by omega
      have hm : c % 128 * 128 ^ i ≤ 127 * 128 ^ i := Nat.mul_le_mul_right _ (by omega)
      have hp : (128 : Nat) ^ (i + 1) = 128 ^ i * 128 := Nat.pow_succ ..
      by_cases hlo : c < 128
      · rw [if_pos hlo]
        constructor
        · show acc + c % 128 * 128 ^ i < _
          rcases Nat.lt_or_ge i 9 with h | h
          · have h1 : 128 ^ i ≤ 128 ^ 8 := Nat.pow_le_pow_right (by omega) (by omega)
            have h4 : (128 : Nat) ^ 8 = 72057594037927936 := by decide
            omega
          · obtain rfl : i = 9 := by omega
            have h4 : (128 : Nat) ^ 9 = 9223372036854775808 := by decide
            have h2 : c % 128 * 128 ^ 9 ≤ 1 * 128 ^ 9 := Nat.mul_le_mul_right _ (by omega)
            omega
        · show i + 1 ≤ _
          rw [List.length_cons]; omega
      · rw [if_neg hlo]
        have h9 : i < 9 := by
          rcases Nat.lt_or_ge i 9 with h | h
          · exact h
          · exact absurd (.inl ⟨by omega, by omega⟩) hbad
        have := ih (i + 1) (acc + c % 128 * 128 ^ i) (by omega) (by omega) (fun y hy => hx y (List.mem_cons_of_mem _ hy))
        rw [List.length_cons]
        exact ⟨this.1, by omega⟩
theorem rdN_lt (bs : List Nat) (at_ : Int) (h : ∀ x ∈ bs, x < 256) : (rdN bs at_).1 < 18446744073709551616 ∧ 0 ≤ (rdN bs at_).2.1 ∧ (rdN bs at_).2.1 ≤ bs.length := by
  unfold rdN
  split
  · exact ⟨by simp, by simp, by simp⟩
  · rename_i hb
    have h1 := rdF_lt (bs.drop at_.toNat) 0 0 (by omega) (by decide) (fun x hx => h x (List.mem_of_mem_drop hx))
    rw [List.length_drop] at h1
    simp only
    split
    · exact ⟨h1.1, by simp; omega, by simp; omega⟩
    · exact ⟨by simp, by simp, by simp⟩
end Go.Proofs.YthgiafjiemiifaaGreat.OctMath
end
section
namespace Go.Proofs.YthgiafjiemiifaaGreat
open Go.RowKit OctMath
set_option linter.unusedVariables false
theorem Tryz.infoU8 : (Tryz.prog.info? 5).map (fun i => (i.zero, i.size, i.bytes)) = some (some (.int .u8 0), 1, 1) := by kernel_rfl
theorem make0 (c : Nat) (hc : c ≤ 281474976710656) (w : World) : (Instr.makeSlice 22 (.int .i64 0) (.int .i64 (c : Int))).run Tryz.prog w = .ok (.slice (some ⟨w.heap.size, 0, none⟩) 0 c) (w.alloc (.cells (madeCells #[.int .u8 0] c) 5)) := by
  obtain ⟨i, hi, h2, h3, h4⟩ := info_parts Tryz.infoU8
  have h := run_make (P := Tryz.prog) w 22 5 i (.int .u8 0) Tryz.underlying22 hi h2 .i64 .i64 0 c (by omega) (by omega) (by rw [h4]; omega) (by omega)
  simpa [h3, Value.cells] using h
set_option maxRecDepth 100000 in
set_option maxHeartbeats 1000000 in
theorem put_any (A B : Option Addr) (cap cap' n m : Nat) (xs ys : List Value) (w : World) (hr : Reads w w.heap.size 1 A n xs) (hr' : Reads w w.heap.size 1 B m ys) (h1 : ∀ u ∈ xs, u.oneCell' = true) (h2 : ∀ u ∈ ys, u.oneCell' = true) (hm : n + m ≤ 140737488355320) :
    Calls Tryz.prog 116 #[.slice A n cap, .slice B m cap'] w (RetS 5 (xs ++ ys) w) := by
  have hmk : ∀ W : World, (Instr.makeSlice 22 (.int .i64 0) (.int .i64 ((n : Int) + (m : Int) + 8))).run Tryz.prog W = .ok (.slice (some ⟨W.heap.size, 0, none⟩) 0 (n + m + 8)) (W.alloc (.cells (madeCells #[.int .u8 0] (n + m + 8)) 5)) := fun W => by
    have := make0 (n + m + 8) (by omega) W
    rw [show ((n + m + 8 : Nat) : Int) = (n : Int) + (m : Int) + 8 from by omega] at this
    exact this
  have hn : xs.length = n := by simpa using hr.1
  have hn' : ys.length = m := by simpa using hr'.1
  have HR := Lib.hid hr
  have HR' := Lib.hid hr'
  clear hr hr'
  go_enter Tryz.func116, Tryz.ntmps116
  go_wp2_with (first
    | (at_builtin
       refine wpl_append rfl (.tmp 11) (.tmp 12) _ rfl w w.heap.size 5 _ 1 1 Tryz.underlying22 Tryz.infoU8 rfl (by decide) (.slice (some ⟨w.heap.size, 0, none⟩) 0 (n + m + 8)) 0 [] rfl ?own (w.heap.size + 1) A n cap xs rfl ?rd h1 (by omega) (by decide) ?bel ?base ?_
       case own => exact World.ownsRow_made w _ _ (Nat.le_refl _) (by unfold maxLen; omega) (by rw [size_madeCells, Nat.mul_one])
       case rd => exact (HR.out.alloc (Nat.le_refl _) _).more (by simp)
       case bel => exact (Below.refl _ _).alloc (Nat.le_refl _) _
       case base => simp
       intro v1 w1 hh1)
    | (at_builtin
       refine wpl_append rfl (.tmp 13) (.tmp 14) _ rfl w w.heap.size 5 _ 1 1 Tryz.underlying22 Tryz.infoU8 rfl (by decide) v1 (0 + n) ([] ++ xs) rfl ?own w.heap.size B m cap' ys rfl ?rd h2 (by omega) (by decide) ?bel ?base ?_
       case own => exact hh1.out.1
       case rd => exact HR'.out.below hh1.out.2.1
       case bel => exact hh1.out.2.1
       case base => exact hh1.out.2.2
       intro v2 w2 hh2))
  go_ret
  refine ⟨v2, rfl, ?_, hh2.out.2.1⟩
  have h := hh2.out.1
  rw [show (xs ++ ys).length = 0 + n + m from by simp; omega]
  simpa using h
theorem or128_ck : ((List.range 256).all fun x => Nat.beq (x ||| 128) (x % 128 + 128)) = true := by decide +kernel
theorem own_baseO {w : World} {base base' : Nat} {e : TypeId} {size n : Nat} {v : Value} {xs : List Value} (h : w.ownsRow base e size v n xs) (hb : base' ≤ base) : w.ownsRow base' e size v n xs := by
  obtain ⟨h0, h1⟩ := h
  refine ⟨h0, ?_⟩
  rcases h1 with h1 | ⟨g, cap, cur, h2, h3, h4⟩
  · exact .inl h1
  · exact .inr ⟨g, cap, cur, h2, Nat.le_trans hb h3, h4⟩
theorem zz_pos {n : Int} (h : 0 ≤ n) (h2 : n ≤ 9223372036854775807) : ((zz n : Nat) : Int) = 2 * n := by unfold zz; rw [if_pos h]; omega
theorem zz_neg {n : Int} (h : n < 0) : ((zz n : Nat) : Int) = -2 * n - 1 := by unfold zz; rw [if_neg (by omega)]; omega
theorem zz_lt {n : Int} (h1 : -9223372036854775808 ≤ n) (h2 : n ≤ 9223372036854775807) : zz n < 18446744073709551616 := by
  unfold zz; split <;> omega
theorem zzx_pos {n : Int} (h : 0 ≤ n) (h2 : n ≤ 9223372036854775807) : bits .xor .u64 (n * 2) (n / 9223372036854775808) = ((zz n : Nat) : Int) := by
  have h3 := zz_pos h h2
  have h4 := u64_xor_nat (zz n) 0 (by omega) (by omega)
  rw [Nat.xor_zero, h3] at h4
  rw [show n / 9223372036854775808 = 0 from by omega, show n * 2 = 2 * n from by omega, h3]
  exact h4
theorem xor_ones (a : Nat) (h : a < 18446744073709551616) : a ^^^ 18446744073709551615 = 18446744073709551615 - a := by
  have h1 := congrArg BitVec.toNat (BitVec.xor_allOnes (x := BitVec.ofNat 64 a))
  rw [BitVec.toNat_xor, BitVec.toNat_not, BitVec.toNat_ofNat, BitVec.toNat_allOnes] at h1
  have h2 : a % 2 ^ 64 = a := Nat.mod_eq_of_lt h
  rw [h2] at h1
  exact h1
theorem zzx_neg {n : Int} (h1 : -9223372036854775808 ≤ n) (h2 : n < 0) : bits .xor .u64 (IntKind.u64.wrap (IntKind.u64.wrap n * 2)) (IntKind.u64.wrap (n / 9223372036854775808)) = ((zz n : Nat) : Int) := by
  have e1 : IntKind.u64.wrap n = n + 18446744073709551616 := by rw [IntKind.wrap_u64]; omega
  have e2 : IntKind.u64.wrap ((n + 18446744073709551616) * 2) = 2 * n + 18446744073709551616 := by rw [IntKind.wrap_u64]; omega
  have e3 : IntKind.u64.wrap (n / 9223372036854775808) = 18446744073709551615 := by
    rw [show n / 9223372036854775808 = -1 from by omega, IntKind.wrap_u64]; omega
  have h3 := zz_neg h2
  obtain ⟨a, ha⟩ : ∃ a : Nat, 2 * n + 18446744073709551616 = (a : Int) := ⟨(2 * n + 18446744073709551616).toNat, by omega⟩
  have h4 := u64_xor_nat a 18446744073709551615 (by omega) (by omega)
  rw [xor_ones a (by omega)] at h4
  rw [e1, e2, e3, ha]
  refine h4.trans ?_
  omega
end Go.Proofs.YthgiafjiemiifaaGreat
end
section
namespace Go.Proofs.YthgiafjiemiifaaGreat
open Go.RowKit OctMath
set_option linter.unusedVariables false
set_option maxRecDepth 100000 in
set_option maxHeartbeats 400000 in
theorem copied_any (A : Option Addr) (cap n : Nat) (xs : List Value) (w : World) (hr : Reads w w.heap.size 1 A n xs) (h1 : ∀ u ∈ xs, u.oneCell' = true) (hm : n ≤ 140737488351232) :
    Calls Tryz.prog 112 #[.slice A n cap] w (RetS 5 xs w) := by
  have hn : xs.length = n := by simpa using hr.1
  go_enter Tryz.func112, Tryz.ntmps112
  go_wp2_with (at_builtin
               refine wpl_append rfl (.tmp 3) (.tmp 4) _ rfl w w.heap.size 5 _ 1 1 Tryz.underlying22 Tryz.infoU8 rfl (by decide) (.slice (some ⟨w.heap.size, 0, none⟩) 0 0) 0 [] rfl ?own (w.heap.size + 1) A n cap xs rfl ?rd h1 (by omega) (by decide) ?bel ?base ?_
               case own => exact World.ownsRow_lit _ #[] 0 (Nat.le_refl _) (by unfold maxLen; omega) rfl
               case rd => exact (hr.alloc (Nat.le_refl _) _).more (by simp)
               case bel => exact (Below.refl _ _).alloc (Nat.le_refl _) _
               case base => simp
               intro v1 w1 hh)
  go_ret
  refine ⟨v1, rfl, ?_, hh.out.2.1⟩
  have h := hh.out.1
  rw [hn]
  simpa using h
set_option maxRecDepth 100000 in
set_option maxHeartbeats 400000 in
theorem copy_any (A : Option Addr) (cap n : Nat) (xs : List Value) (w : World) (hr : Reads w w.heap.size 1 A n xs) (h1 : ∀ u ∈ xs, u.oneCell' = true) (hm : n ≤ 140737488351232) :
    Calls Tryz.prog 16 #[.slice A n cap] w (RetS 5 xs w) := by
  have hn : xs.length = n := by simpa using hr.1
  go_enter Tryz.func16, Tryz.ntmps16
  go_wp2_with (at_builtin
               refine wpl_append rfl (.tmp 3) (.tmp 4) _ rfl w w.heap.size 5 _ 1 1 Tryz.underlying22 Tryz.infoU8 rfl (by decide) (.slice (some ⟨w.heap.size, 0, none⟩) 0 0) 0 [] rfl ?own (w.heap.size + 1) A n cap xs rfl ?rd h1 (by omega) (by decide) ?bel ?base ?_
               case own => exact World.ownsRow_lit _ #[] 0 (Nat.le_refl _) (by unfold maxLen; omega) rfl
               case rd => exact (hr.alloc (Nat.le_refl _) _).more (by simp)
               case bel => exact (Below.refl _ _).alloc (Nat.le_refl _) _
               case base => simp
               intro v1 w1 hh)
  go_ret
  refine ⟨v1, rfl, ?_, hh.out.2.1⟩
  have h := hh.out.1
  rw [hn]
  simpa using h
set_option maxRecDepth 100000 in
set_option maxHeartbeats 400000 in
theorem same_any (A B : Option Addr) (cap cap' n m : Nat) (xs ys : List Nat) (w : World) (hx : Byt xs) (hy : Byt ys) (hr : Reads w w.heap.size 1 A n (xs.map bv)) (hr' : Reads w w.heap.size 1 B m (ys.map bv)) :
    Calls Tryz.prog 8 #[.slice A n cap, .slice B m cap'] w fun e w' => e = .returned (.bool (decide (xs = ys))) ∧ w = w' := by
  have h1 := run_conv_bytes (P := Tryz.prog) (src := 22) (dst := 9) (cap := cap) Tryz.underlying22 Tryz.underlying5 Tryz.underlying9 hr
  have h2 := run_conv_bytes (P := Tryz.prog) (src := 22) (dst := 9) (cap := cap') Tryz.underlying22 Tryz.underlying5 Tryz.underlying9 hr'
  have h3 := strOf_beq hx hy
  go_enter Tryz.func8, Tryz.ntmps8
  go_wp2
  go_ret
  exact ⟨rfl, rfl⟩
def RNum (w : World) (xs : List Value) (n m : Nat) (v : Value) (wr : World) : Prop :=
  ∃ pre : List Nat, putN n = pre ++ putN m ∧ wr.ownsRow w.heap.size 5 1 v (xs ++ pre.map bv).length (xs ++ pre.map bv) ∧ Below w.heap.size w wr
theorem and127 (m : Nat) (h : m < 18446744073709551616) : bits .and .u64 (m : Int) 127 = ((m % 128 : Nat) : Int) := by
  have h1 := u64_and_nat m 127 h (by omega)
  rw [show m &&& 127 = m % 128 from Nat.and_two_pow_sub_one_eq_mod m 7] at h1
  exact h1
theorem or128' (m : Nat) : bits .or .u8 ((m : Int) % 128) 128 = ((m % 128 + 128 : Nat) : Int) := by
  have h := u8_or_nat (m % 128) 128 (by omega) (by omega)
  have h2 := List.all_eq_true.1 or128_ck (m % 128) (List.mem_range.2 (by omega))
  rw [Nat.eq_of_beq_eq_true h2, show m % 128 % 128 = m % 128 from by omega] at h
  exact h
set_option maxRecDepth 100000 in
set_option maxHeartbeats 1000000 in
theorem rputnum_any (A : Option Addr) (cap l n : Nat) (xs : List Value) (w : World) (hr : Reads w w.heap.size 1 A l xs) (h1 : ∀ u ∈ xs, u.oneCell' = true) (hn : n < 18446744073709551616) (hm : l ≤ 140737488351232) :
    Calls Tryz.prog 95 #[.slice A l cap, .int .u64 n] w (RetS 5 (xs ++ (putN n).map bv) w) := by
  have HR := Lib.hid hr
  have hl : xs.length = l := by simpa using hr.1
  clear hr
  have h10 := putN_len10 hn
  go_enter Tryz.func95, Tryz.ntmps95
  go_wp2_with fail
  refine (copied_any A cap l xs _ HR.out h1 hm).mono ?_
  rintro e w1 ⟨v, rfl, ho, hb⟩
  have HO := Lib.hid ho
  clear ho
  go_wp2_with fail
  go_loopw [1, 5] (fun vn vv wr => ∃ m : Nat, m ≤ n ∧ vn = .int .u64 m ∧ RNum w xs n m vv wr) (fun vn _ _ => (intOf vn).toNat)
  case atStart => exact ⟨n, Nat.le_refl _, rfl, [], rfl, by simpa using HO.out, hb⟩
  case round =>
    obtain ⟨m, hmn, rfl, pre, hpn, hO, hB⟩ := hrel
    clear hb HO HR
    have HO := Lib.hid hO
    clear hO
    have hlen : pre.length + (putN m).length ≤ 10 := by rw [hpn, List.length_append] at h10; exact h10
    have hpos := putN_pos m
    have hlx : (xs ++ pre.map bv).length ≤ l + 10 := by rw [List.length_append, List.length_map, hl]; omega
    have HP := Lib.hid hpn
    clear hpn h10
    by_cases hb : m < 128
    · have hs := Lib.hid (putN_small hb)
      have hb2 : (m : Int) % 256 = m := by omega
      go_wp2_with (at_builtin
                   refine wpl_append rfl (.tmp 19) (.tmp 22) _ rfl w w.heap.size 5 _ 1 1 Tryz.underlying22 Tryz.infoU8 rfl (by decide) u5 (xs ++ pre.map bv).length (xs ++ pre.map bv) rfl ?own (wr.heap.size + 1) (some ⟨wr.heap.size, 0, none⟩) 1 1 [bv m] rfl ?rd (bv_one [m]) ?byt (by decide) ?bel ?base ?_
                   case own => exact HO.out.alloc _
                   case rd => exact Reads.lit1 wr 5 (bv m)
                   case byt => omega
                   case bel => exact hB.alloc hB.size _
                   case base => (simp; exact Nat.le_succ_of_le hB.size)
                   intro v2 w2 hh)
      go_ret
      refine ⟨v2, rfl, ?_, hh.out.2.1⟩
      have h := hh.out.1
      rw [HP.out, hs.out, List.map_append, ← List.append_assoc, List.length_append]
      exact h
    · have hs := Lib.hid (putN_big hb)
      have x1 := and127 m (by omega)
      have x2 := or128' m
      have x3 : ((m % 128 : Nat) : Int) = (m : Int) % 128 := by omega
      have x4 : (m : Int) % 128 % 256 = (m : Int) % 128 := by omega
      rw [x3] at x1
      obtain ⟨d, ed⟩ : ∃ d, m % 128 + 128 = d := ⟨_, rfl⟩
      rw [ed] at x2
      have ED := Lib.hid ed
      clear ed x3
      go_wp2_with (at_builtin
                   refine wpl_append rfl (.tmp 10) (.tmp 15) _ rfl w w.heap.size 5 _ 1 1 Tryz.underlying22 Tryz.infoU8 rfl (by decide) u5 (xs ++ pre.map bv).length (xs ++ pre.map bv) rfl ?own (wr.heap.size + 1) (some ⟨wr.heap.size, 0, none⟩) 1 1 [bv d] rfl ?rd (bv_one [d]) ?byt (by decide) ?bel ?base ?_
                   case own => exact HO.out.alloc _
                   case rd => exact Reads.lit1 wr 5 (bv d)
                   case byt => omega
                   case bel => exact hB.alloc hB.size _
                   case base => (simp; exact Nat.le_succ_of_le hB.size)
                   intro v2 w2 hh)
      refine ⟨⟨m / 128, by omega, by simp, pre ++ [d], ?_, ?_, hh.out.2.1⟩, by simp [intOf]; omega⟩
      · rw [HP.out, hs.out, ED.out]; simp
      · have h := hh.out.1
        rw [List.map_append, ← List.append_assoc, List.length_append]
        exact h
theorem putN_len1 (n : Nat) (h : n < 18446744073709551616) : ((putN n).map bv).length ≤ 10 := by rw [List.length_map]; exact putN_len10 h
set_option maxRecDepth 100000 in
set_option maxHeartbeats 1000000 in
theorem rputbytes_any (A B : Option Addr) (cap cap' l m : Nat) (xs ys : List Value) (w : World) (hr : Reads w w.heap.size 1 A l xs) (h1 : ∀ u ∈ xs, u.oneCell' = true) (hr' : Reads w w.heap.size 1 B m ys) (h2 : ∀ u ∈ ys, u.oneCell' = true) (hm : l + m + 10 ≤ 140737488351232) :
    Calls Tryz.prog 117 #[.slice A l cap, .slice B m cap'] w (RetS 5 (xs ++ (putN m).map bv ++ ys) w) := by
  have HR := Lib.hid hr
  have HR' := Lib.hid hr'
  have hl : xs.length = l := by simpa using hr.1
  have hl' : ys.length = m := by simpa using hr'.1
  have h10 := putN_len10 (n := m) (by omega)
  clear hr hr'
  go_enter Tryz.func117, Tryz.ntmps117
  go_wp2_with fail
  refine (rputnum_any A cap l m xs _ HR.out h1 (by omega) (by omega)).mono ?_
  rintro e w1 ⟨v, rfl, ho, hb⟩
  have HO := Lib.hid ho
  clear ho
  go_wp2_with (at_builtin
               refine wpl_append rfl (.tmp 9) (.tmp 10) _ rfl w w.heap.size 5 _ 1 1 Tryz.underlying22 Tryz.infoU8 rfl (by decide) v (xs ++ (putN m).map bv).length (xs ++ (putN m).map bv) rfl ?own w.heap.size B m cap' ys rfl ?rd h2 ?byt (by decide) ?bel ?base ?_
               case own => exact HO.out
               case rd => exact HR'.out.below hb
               case byt => rw [List.length_append, List.length_map]; omega
               case bel => exact hb
               case base => exact hb.size
               intro v2 w2 hh)
  go_ret
  refine ⟨v2, rfl, ?_, hh.out.2.1⟩
  have h := hh.out.1
  rw [show (xs ++ (putN m).map bv ++ ys).length = (xs ++ (putN m).map bv).length + m from by rw [List.length_append, hl']]
  exact h
set_option maxRecDepth 100000 in
set_option maxHeartbeats 1000000 in
theorem rputflag_any (f : Bool) (A : Option Addr) (cap l : Nat) (xs : List Value) (w : World) (hr : Reads w w.heap.size 1 A l xs) (h1 : ∀ u ∈ xs, u.oneCell' = true) (hm : l ≤ 140737488351232) :
    Calls Tryz.prog 114 #[.slice A l cap, .bool f] w (RetS 5 (xs ++ [bv f.toNat]) w) := by
  have HR := Lib.hid hr
  have hl : xs.length = l := by simpa using hr.1
  clear hr
  rcases f with _ | _
  · go_enter Tryz.func114, Tryz.ntmps114
    go_wp2_with fail
    refine (copied_any A cap l xs _ HR.out h1 hm).mono ?_
    rintro e w1 ⟨v, rfl, ho, hb⟩
    have HO := Lib.hid ho
    clear ho
    go_wp2_with (at_builtin
                 refine wpl_append rfl (.tmp 11) (.tmp 12) _ rfl w w.heap.size 5 _ 1 1 Tryz.underlying22 Tryz.infoU8 rfl (by decide) v xs.length xs rfl ?own (w1.heap.size + 1) (some ⟨w1.heap.size, 0, none⟩) 1 1 [bv 0] rfl ?rd (bv_one [0]) ?byt (by decide) ?bel ?base ?_
                 case own => exact HO.out.alloc _
                 case rd => exact Reads.lit1 w1 5 (bv 0)
                 case byt => omega
                 case bel => exact hb.alloc hb.size _
                 case base => (simp; exact Nat.le_succ_of_le hb.size)
                 intro v2 w2 hh)
    go_ret
    exact ⟨v2, rfl, by have h := hh.out.1; rw [List.length_append]; exact h, hh.out.2.1⟩
  · go_enter Tryz.func114, Tryz.ntmps114
    go_wp2_with fail
    refine (copied_any A cap l xs _ HR.out h1 hm).mono ?_
    rintro e w1 ⟨v, rfl, ho, hb⟩
    have HO := Lib.hid ho
    clear ho
    go_wp2_with (at_builtin
                 refine wpl_append rfl (.tmp 7) (.tmp 8) _ rfl w w.heap.size 5 _ 1 1 Tryz.underlying22 Tryz.infoU8 rfl (by decide) v xs.length xs rfl ?own (w1.heap.size + 1) (some ⟨w1.heap.size, 0, none⟩) 1 1 [bv 1] rfl ?rd (bv_one [1]) ?byt (by decide) ?bel ?base ?_
                 case own => exact HO.out.alloc _
                 case rd => exact Reads.lit1 w1 5 (bv 1)
                 case byt => omega
                 case bel => exact hb.alloc hb.size _
                 case base => (simp; exact Nat.le_succ_of_le hb.size)
                 intro v2 w2 hh)
    go_ret
    exact ⟨v2, rfl, by have h := hh.out.1; rw [List.length_append]; exact h, hh.out.2.1⟩
set_option maxRecDepth 100000 in
set_option maxHeartbeats 1000000 in
theorem rputint_any (A : Option Addr) (cap l : Nat) (n : Int) (xs : List Value) (w : World) (hr : Reads w w.heap.size 1 A l xs) (h1 : ∀ u ∈ xs, u.oneCell' = true) (n1 : -9223372036854775808 ≤ n) (n2 : n ≤ 9223372036854775807) (hm : l ≤ 140737488351232) :
    Calls Tryz.prog 97 #[.slice A l cap, .int .i64 n] w (RetS 5 (xs ++ (putN (zz n)).map bv) w) := by
  have HR := Lib.hid hr
  clear hr
  have hz := zz_lt n1 n2
  by_cases hs : 0 ≤ n
  · have e := zz_pos hs n2
    have E := Lib.hid e
    clear e
    go_enter Tryz.func97, Tryz.ntmps97
    go_wp2_with fail
    rw [← E.out]
    refine (rputnum_any A cap l (zz n) xs _ HR.out h1 hz hm).mono ?_
    rintro e w2 h
    obtain ⟨v, rfl, h3⟩ := h
    go_wp2
    go_ret
    exact ⟨v, rfl, h3⟩
  · have e : ((zz n : Nat) : Int) = 2 * (-1 - n) + 1 := by have := zz_neg (n := n) (by omega); omega
    have E := Lib.hid e
    have n3 : 0 ≤ -1 - n := by omega
    have n4 : -1 - n ≤ 9223372036854775807 := by omega
    clear e
    go_enter Tryz.func97, Tryz.ntmps97
    go_wp2_with fail
    rw [← E.out]
    refine (rputnum_any A cap l (zz n) xs _ HR.out h1 hz hm).mono ?_
    rintro e w2 h
    obtain ⟨v, rfl, h3⟩ := h
    go_wp2
    go_ret
    exact ⟨v, rfl, h3⟩
end Go.Proofs.YthgiafjiemiifaaGreat
end
