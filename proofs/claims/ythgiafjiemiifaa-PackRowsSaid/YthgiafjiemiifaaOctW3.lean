/-
  The walks that put: put, PutNumber, PutInt, PutBytes, PutFlag, Word; and the reference's.
-/
import Derived.Test.YthgiafjiemiifaaLib
import Derived.Test.YthgiafjiemiifaaOctMath
namespace Go.Proofs.Ythgiafjiemiifaa
open Go.RowKit OctMath
set_option linter.unusedVariables false
theorem Try.infoU8 : (Try.prog.info? 5).map (fun i => (i.zero, i.size, i.bytes)) = some (some (.int .u8 0), 1, 1) := by kernel_rfl
theorem make0 (c : Nat) (hc : c ≤ 281474976710656) (w : World) : (Instr.makeSlice 22 (.int .i64 0) (.int .i64 (c : Int))).run Try.prog w = .ok (.slice (some ⟨w.heap.size, 0, none⟩) 0 c) (w.alloc (.cells (madeCells #[.int .u8 0] c) 5)) := by
  obtain ⟨i, hi, h2, h3, h4⟩ := info_parts Try.infoU8
  have h := run_make (P := Try.prog) w 22 5 i (.int .u8 0) Try.underlying22 hi h2 .i64 .i64 0 c (by omega) (by omega) (by rw [h4]; omega) (by omega)
  simpa [h3, Value.cells] using h
set_option maxRecDepth 100000 in
set_option maxHeartbeats 1000000 in
theorem put_any (A B : Option Addr) (cap cap' n m : Nat) (xs ys : List Value) (w : World) (hr : Reads w w.heap.size 1 A n xs) (hr' : Reads w w.heap.size 1 B m ys) (h1 : ∀ u ∈ xs, u.oneCell' = true) (h2 : ∀ u ∈ ys, u.oneCell' = true) (hm : n + m ≤ 140737488355320) :
    Calls Try.prog 100 #[.slice A n cap, .slice B m cap'] w (RetS 5 (xs ++ ys) w) := by
  have hmk : ∀ W : World, (Instr.makeSlice 22 (.int .i64 0) (.int .i64 ((n : Int) + (m : Int) + 8))).run Try.prog W = .ok (.slice (some ⟨W.heap.size, 0, none⟩) 0 (n + m + 8)) (W.alloc (.cells (madeCells #[.int .u8 0] (n + m + 8)) 5)) := fun W => by
    have := make0 (n + m + 8) (by omega) W
    rw [show ((n + m + 8 : Nat) : Int) = (n : Int) + (m : Int) + 8 from by omega] at this
    exact this
  have hn : xs.length = n := by simpa using hr.1
  have hn' : ys.length = m := by simpa using hr'.1
  have HR := Lib.hid hr
  have HR' := Lib.hid hr'
  clear hr hr'
  go_enter Try.func100, Try.ntmps100
  go_wp2_with (first
    | (at_builtin
       refine wpl_append rfl (.tmp 11) (.tmp 12) _ rfl w w.heap.size 5 _ 1 1 Try.underlying22 Try.infoU8 rfl (by decide) (.slice (some ⟨w.heap.size, 0, none⟩) 0 (n + m + 8)) 0 [] rfl ?own (w.heap.size + 1) A n cap xs rfl ?rd h1 (by omega) (by decide) ?bel ?base ?_
       case own => exact World.ownsRow_made w _ _ (Nat.le_refl _) (by unfold maxLen; omega) (by rw [size_madeCells, Nat.mul_one])
       case rd => exact (HR.out.alloc (Nat.le_refl _) _).more (by simp)
       case bel => exact (Below.refl _ _).alloc (Nat.le_refl _) _
       case base => simp
       intro v1 w1 hh1)
    | (at_builtin
       refine wpl_append rfl (.tmp 13) (.tmp 14) _ rfl w w.heap.size 5 _ 1 1 Try.underlying22 Try.infoU8 rfl (by decide) v1 (0 + n) ([] ++ xs) rfl ?own w.heap.size B m cap' ys rfl ?rd h2 (by omega) (by decide) ?bel ?base ?_
       case own => exact hh1.out.1
       case rd => exact HR'.out.below hh1.out.2.1
       case bel => exact hh1.out.2.1
       case base => exact hh1.out.2.2
       intro v2 w2 hh2))
  go_ret
  refine ⟨v2, rfl, ?_, hh2.out.2.1⟩
  have h := hh2.out.1
  rw [show (xs ++ ys).length = 0 + n + m from by simp; omega]
  simpa using h
/-- What the ten bytes hold while a number is put: its first digits, then noughts. -/
def numF (pre : List Nat) : Nat → Value := fun j => if j < pre.length then bv (pre.getD j 0) else bv 0
theorem numF_step (pre : List Nat) (d j : Nat) : (if j = pre.length then bv d else numF pre j) = numF (pre ++ [d]) j := by
  unfold numF
  by_cases e : j = pre.length
  · subst e; rw [if_pos rfl, if_pos (by simp)]; simp
  · rw [if_neg e]
    by_cases h : j < pre.length
    · rw [if_pos h, if_pos (by simp; omega)]; congr 1
      rw [List.getD_eq_getElem?_getD, List.getD_eq_getElem?_getD, List.getElem?_append_left h]
    · rw [if_neg h, if_neg (by simp; omega)]
theorem numF_all (pre : List Nat) : (List.range pre.length).map (numF pre) = pre.map bv := by
  apply List.ext_getElem?
  intro j
  by_cases hj : j < pre.length
  · rw [List.getElem?_map, List.getElem?_range hj, List.getElem?_map, List.getElem?_eq_getElem hj]
    simp [numF, hj, List.getD]
  · rw [List.getElem?_eq_none (by simp; omega), List.getElem?_eq_none (by simp; omega)]
theorem reads_rowIs {w : World} {g : Nat} {t : TypeId} {N n : Nat} {f : Nat → Value} (h : w.rowIs g t N f) (hn : n ≤ N) : Reads w w.heap.size 1 (some ⟨g, 0, none⟩) n ((List.range n).map f) := by
  refine ⟨by simp, fun _ => ⟨_, rfl, h.lt, fun j u hu => ?_⟩⟩
  have hj : j < n := by
    have := (List.getElem?_eq_some_iff.1 hu).1
    simpa using this
  rw [show (⟨g, 0, none⟩ : Addr).add j = ⟨g, j, none⟩ from by unfold Addr.add; split <;> simp_all]
  rw [h.cell (i := j) (by omega), ← hu, List.getElem?_map, List.getElem?_range hj]; rfl
theorem or128_ck : ((List.range 256).all fun x => Nat.beq (x ||| 128) (x % 128 + 128)) = true := by decide +kernel
theorem or128 (m : Nat) : bits .or .u8 ((m : Int) % 256) 128 = ((m % 128 + 128 : Nat) : Int) := by
  have h := u8_or_nat (m % 256) 128 (by omega) (by omega)
  have h2 := List.all_eq_true.1 or128_ck (m % 256) (List.mem_range.2 (by omega))
  rw [Nat.eq_of_beq_eq_true h2, show m % 256 % 128 = m % 128 from by omega] at h
  exact h
theorem own_baseO {w : World} {base base' : Nat} {e : TypeId} {size n : Nat} {v : Value} {xs : List Value} (h : w.ownsRow base e size v n xs) (hb : base' ≤ base) : w.ownsRow base' e size v n xs := by
  obtain ⟨h0, h1⟩ := h
  refine ⟨h0, ?_⟩
  rcases h1 with h1 | ⟨g, cap, cur, h2, h3, h4⟩
  · exact .inl h1
  · exact .inr ⟨g, cap, cur, h2, Nat.le_trans hb h3, h4⟩
theorem zz_pos {n : Int} (h : 0 ≤ n) (h2 : n ≤ 9223372036854775807) : ((zz n : Nat) : Int) = 2 * n := by unfold zz; rw [if_pos h]; omega
theorem zz_neg {n : Int} (h : n < 0) : ((zz n : Nat) : Int) = -2 * n - 1 := by unfold zz; rw [if_neg (by omega)]; omega
theorem zz_lt {n : Int} (h1 : -9223372036854775808 ≤ n) (h2 : n ≤ 9223372036854775807) : zz n < 18446744073709551616 := by
  unfold zz; split <;> omega
theorem zzx_pos {n : Int} (h : 0 ≤ n) (h2 : n ≤ 9223372036854775807) : bits .xor .u64 (n * 2) (n / 9223372036854775808) = ((zz n : Nat) : Int) := by
  have h3 := zz_pos h h2
  have h4 := u64_xor_nat (zz n) 0 (by omega) (by omega)
  rw [Nat.xor_zero, h3] at h4
  rw [show n / 9223372036854775808 = 0 from by omega, show n * 2 = 2 * n from by omega, h3]
  exact h4
theorem xor_ones (a : Nat) (h : a < 18446744073709551616) : a ^^^ 18446744073709551615 = 18446744073709551615 - a := by
  have h1 := congrArg BitVec.toNat (BitVec.xor_allOnes (x := BitVec.ofNat 64 a))
  rw [BitVec.toNat_xor, BitVec.toNat_not, BitVec.toNat_ofNat, BitVec.toNat_allOnes] at h1
  have h2 : a % 2 ^ 64 = a := Nat.mod_eq_of_lt h
  rw [h2] at h1
  exact h1
theorem zzx_neg {n : Int} (h1 : -9223372036854775808 ≤ n) (h2 : n < 0) : bits .xor .u64 (IntKind.u64.wrap (IntKind.u64.wrap n * 2)) (IntKind.u64.wrap (n / 9223372036854775808)) = ((zz n : Nat) : Int) := by
  have e1 : IntKind.u64.wrap n = n + 18446744073709551616 := by rw [IntKind.wrap_u64]; omega
  have e2 : IntKind.u64.wrap ((n + 18446744073709551616) * 2) = 2 * n + 18446744073709551616 := by rw [IntKind.wrap_u64]; omega
  have e3 : IntKind.u64.wrap (n / 9223372036854775808) = 18446744073709551615 := by
    rw [show n / 9223372036854775808 = -1 from by omega, IntKind.wrap_u64]; omega
  have h3 := zz_neg h2
  obtain ⟨a, ha⟩ : ∃ a : Nat, 2 * n + 18446744073709551616 = (a : Int) := ⟨(2 * n + 18446744073709551616).toNat, by omega⟩
  have h4 := u64_xor_nat a 18446744073709551615 (by omega) (by omega)
  rw [xor_ones a (by omega)] at h4
  rw [e1, e2, e3, ha]
  refine h4.trans ?_
  omega
end Go.Proofs.Ythgiafjiemiifaa
