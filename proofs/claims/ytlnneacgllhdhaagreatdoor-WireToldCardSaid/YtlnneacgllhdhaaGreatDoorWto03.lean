/-
  The walks that put: put, PutNumber, PutInt, PutBytes, PutFlag, Word; and the reference's; The walks of the reference's puts, of Word (both), and of Copy and Same; The walks that read: Number, Int, Bytes; The walks that read, for every place: Number, Int, Bytes. (joined out of OctW3, OctW4, OctW5, OctW6 by shake.py)
-/
import Derived.Test.YtlnneacgllhdhaaGreatDoorWto01
import Derived.Test.YtlnneacgllhdhaaGreatDoorWto02
section
namespace Go.Proofs.YtlnneacgllhdhaaGreatDoor
open Go.RowKit OctMath
set_option linter.unusedVariables false
theorem Tryz.infoU8 : (Tryz.prog.info? 5).map (fun i => (i.zero, i.size, i.bytes)) = some (some (.int .u8 0), 1, 1) := by kernel_rfl
theorem make0 (c : Nat) (hc : c ≤ 281474976710656) (w : World) : (Instr.makeSlice 33 (.int .i64 0) (.int .i64 (c : Int))).run Tryz.prog w = .ok (.slice (some ⟨w.heap.size, 0, none⟩) 0 c) (w.alloc (.cells (madeCells #[.int .u8 0] c) 5)) := by
  obtain ⟨i, hi, h2, h3, h4⟩ := info_parts Tryz.infoU8
  have h := run_make (P := Tryz.prog) w 33 5 i (.int .u8 0) Tryz.underlying33 hi h2 .i64 .i64 0 c (by omega) (by omega) (by rw [h4]; omega) (by omega)
  simpa [h3, Value.cells] using h
set_option maxRecDepth 100000 in
set_option maxHeartbeats 1000000 in
theorem put_any (A B : Option Addr) (cap cap' n m : Nat) (xs ys : List Value) (w : World) (hr : Reads w w.heap.size 1 A n xs) (hr' : Reads w w.heap.size 1 B m ys) (h1 : ∀ u ∈ xs, u.oneCell' = true) (h2 : ∀ u ∈ ys, u.oneCell' = true) (hm : n + m ≤ 140737488355320) :
    Calls Tryz.prog 57 #[.slice A n cap, .slice B m cap'] w (RetS 5 (xs ++ ys) w) := by
  have hmk : ∀ W : World, (Instr.makeSlice 33 (.int .i64 0) (.int .i64 ((n : Int) + (m : Int) + 8))).run Tryz.prog W = .ok (.slice (some ⟨W.heap.size, 0, none⟩) 0 (n + m + 8)) (W.alloc (.cells (madeCells #[.int .u8 0] (n + m + 8)) 5)) := fun W => by
    have := make0 (n + m + 8) (by omega) W
    rw [show ((n + m + 8 : Nat) : Int) = (n : Int) + (m : Int) + 8 from by omega] at this
    exact this
  have hn : xs.length = n := by simpa using hr.1
  have hn' : ys.length = m := by simpa using hr'.1
  have HR := Lib.hid hr
  have HR' := Lib.hid hr'
  clear hr hr'
  go_enter Tryz.func57, Tryz.ntmps57
  go_wp2_with (first
    | (at_builtin
       refine wpl_append rfl (.tmp 11) (.tmp 12) _ rfl w w.heap.size 5 _ 1 1 Tryz.underlying33 Tryz.infoU8 rfl (by decide) (.slice (some ⟨w.heap.size, 0, none⟩) 0 (n + m + 8)) 0 [] rfl ?own (w.heap.size + 1) A n cap xs rfl ?rd h1 (by omega) (by decide) ?bel ?base ?_
       case own => exact World.ownsRow_made w _ _ (Nat.le_refl _) (by unfold maxLen; omega) (by rw [size_madeCells, Nat.mul_one])
       case rd => exact (HR.out.alloc (Nat.le_refl _) _).more (by simp)
       case bel => exact (Below.refl _ _).alloc (Nat.le_refl _) _
       case base => simp
       intro v1 w1 hh1)
    | (at_builtin
       refine wpl_append rfl (.tmp 13) (.tmp 14) _ rfl w w.heap.size 5 _ 1 1 Tryz.underlying33 Tryz.infoU8 rfl (by decide) v1 (0 + n) ([] ++ xs) rfl ?own w.heap.size B m cap' ys rfl ?rd h2 (by omega) (by decide) ?bel ?base ?_
       case own => exact hh1.out.1
       case rd => exact HR'.out.below hh1.out.2.1
       case bel => exact hh1.out.2.1
       case base => exact hh1.out.2.2
       intro v2 w2 hh2))
  go_ret
  refine ⟨v2, rfl, ?_, hh2.out.2.1⟩
  have h := hh2.out.1
  rw [show (xs ++ ys).length = 0 + n + m from by simp; omega]
  simpa using h
/-- What the ten bytes hold while a number is put: its first digits, then noughts. -/
def numF (pre : List Nat) : Nat → Value := fun j => if j < pre.length then bv (pre.getD j 0) else bv 0
theorem numF_step (pre : List Nat) (d j : Nat) : (if j = pre.length then bv d else numF pre j) = numF (pre ++ [d]) j := by
  unfold numF
  by_cases e : j = pre.length
  · subst e; rw [if_pos rfl, if_pos (by simp)]; simp
  · rw [if_neg e]
    by_cases h : j < pre.length
    · rw [if_pos h, if_pos (by simp; omega)]; congr 1
      rw [List.getD_eq_getElem?_getD, List.getD_eq_getElem?_getD, List.getElem?_append_left h]
    · rw [if_neg h, if_neg (by simp; omega)]
theorem numF_all (pre : List Nat) : (List.range pre.length).map (numF pre) = pre.map bv := by
  apply List.ext_getElem?
  intro j
  by_cases hj : j < pre.length
  · rw [List.getElem?_map, List.getElem?_range hj, List.getElem?_map, List.getElem?_eq_getElem hj]
    simp [numF, hj, List.getD]
  · rw [List.getElem?_eq_none (by simp; omega), List.getElem?_eq_none (by simp; omega)]
theorem reads_rowIs {w : World} {g : Nat} {t : TypeId} {N n : Nat} {f : Nat → Value} (h : w.rowIs g t N f) (hn : n ≤ N) : Reads w w.heap.size 1 (some ⟨g, 0, none⟩) n ((List.range n).map f) := by
  refine ⟨by simp, fun _ => ⟨_, rfl, h.lt, fun j u hu => ?_⟩⟩
  have hj : j < n := by
    have := (List.getElem?_eq_some_iff.1 hu).1
    simpa using this
  rw [show (⟨g, 0, none⟩ : Addr).add j = ⟨g, j, none⟩ from by unfold Addr.add; split <;> simp_all]
  rw [h.cell (i := j) (by omega), ← hu, List.getElem?_map, List.getElem?_range hj]; rfl
theorem or128_ck : ((List.range 256).all fun x => Nat.beq (x ||| 128) (x % 128 + 128)) = true := by decide +kernel
theorem or128 (m : Nat) : bits .or .u8 ((m : Int) % 256) 128 = ((m % 128 + 128 : Nat) : Int) := by
  have h := u8_or_nat (m % 256) 128 (by omega) (by omega)
  have h2 := List.all_eq_true.1 or128_ck (m % 256) (List.mem_range.2 (by omega))
  rw [Nat.eq_of_beq_eq_true h2, show m % 256 % 128 = m % 128 from by omega] at h
  exact h
theorem slice10 (g k : Nat) (hk : k < 10) (W : World) : (Instr.sliceAt 126 (.pointer (some ⟨g, 0, none⟩)) none (some (.int .i64 ((k : Int) + 1))) none).run Tryz.prog W = .ok (.slice (some ⟨g, 0, none⟩) (k + 1) 10) W := by
  obtain ⟨i, hi, h2, h3, h4⟩ := info_parts Tryz.infoU8
  have e : 0 ≤ (k : Int) + 1 ∧ (k : Int) + 1 ≤ 10 := by omega
  have e2 : ((k : Int) + 1).toNat = k + 1 := by omega
  simp [Instr.sliceAt, run_underlying Tryz.underlying126, Instr.sliceBounds, Instr.sliceBound, asIntOf, Instr.sureAddr, sizeOf, typeInfo, hi, e, e2, Addr.add]
theorem own_baseO {w : World} {base base' : Nat} {e : TypeId} {size n : Nat} {v : Value} {xs : List Value} (h : w.ownsRow base e size v n xs) (hb : base' ≤ base) : w.ownsRow base' e size v n xs := by
  obtain ⟨h0, h1⟩ := h
  refine ⟨h0, ?_⟩
  rcases h1 with h1 | ⟨g, cap, cur, h2, h3, h4⟩
  · exact .inl h1
  · exact .inr ⟨g, cap, cur, h2, Nat.le_trans hb h3, h4⟩
def NumRel (w : World) (n : Nat) (k m : Nat) (wr : World) : Prop :=
  ∃ pre : List Nat, pre.length = k ∧ putN n = pre ++ putN m ∧ wr.rowIs w.heap.size 126 10 (numF pre) ∧ Below w.heap.size w wr
theorem zero10 (w : World) : (zeroValue 126).run Tryz.prog w = .ok (.agg (Array.replicate 10 (.int .u8 0))) w := by kernel_rfl
set_option maxRecDepth 100000 in
set_option maxHeartbeats 1000000 in
theorem putnum_any (A : Option Addr) (cap l n : Nat) (xs : List Value) (w : World) (hr : Reads w w.heap.size 1 A l xs) (h1 : ∀ u ∈ xs, u.oneCell' = true) (hn : n < 18446744073709551616) (hm : l ≤ 140737488351232) :
    Calls Tryz.prog 24 #[.slice A l cap, .int .u64 n] w (RetS 5 (xs ++ (putN n).map bv) w) := by
  have hz := zero10
  have HR := Lib.hid hr
  clear hr
  have h10 := putN_len10 hn
  go_enter Tryz.func24, Tryz.ntmps24
  go_wp2
  clear hz
  have hst : NumRel w n 0 n (w.alloc (.cells (Array.replicate 10 (.int .u8 0)) 126)) := by
    refine ⟨[], rfl, rfl, ?_, (Below.refl _ _).alloc (Nat.le_refl _) _⟩
    have := World.rowIs_alloc w (Array.replicate 10 (.int .u8 0)) 126 (numF []) (fun i hi => by
      have : i < 10 := by simpa using hi
      rw [Array.getElem?_replicate, if_pos this]; rfl)
    simpa using this
  go_loopw [1, 6] (fun vn vk wr => ∃ k m : Nat, m ≤ n ∧ vn = .int .u64 m ∧ vk = .int .i64 k ∧ NumRel w n k m wr) (fun vn _ _ => (intOf vn).toNat)
  case atStart => exact ⟨0, n, Nat.le_refl _, rfl, rfl, hst⟩
  case round =>
    clear hst
    obtain ⟨k, m, hmn, rfl, rfl, pre, hpl, hpn, hR, hB⟩ := hrel
    have hlen : k + (putN m).length ≤ 10 := by rw [hpn, List.length_append, hpl] at h10; exact h10
    have hpos := putN_pos m
    have hRow := Lib.hid hR
    have f4 := hR.cell (i := k) (by omega)
    have f5 := hR.frozen k
    clear hR
    by_cases hb : m < 128
    · have hs := Lib.hid (putN_small hb)
      have HP := Lib.hid hpn
      have HL := Lib.hid hpl
      have hb2 : (m : Int) % 256 = m := by omega
      have hsl := slice10 w.heap.size k (by omega)
      clear hpn hpl h10
      go_wp2_with fail
      have hset : (wr.setCell ⟨w.heap.size, k, none⟩ (.int .u8 (m : Nat))).rowIs w.heap.size 126 10 (numF (pre ++ [m])) :=
        (hRow.out.set k (bv m)).congr fun j _ => by
          have := numF_step pre m j
          rw [HL.out] at this
          exact this
      have hrd := reads_rowIs hset (n := k + 1) (by omega)
      have e1 : (pre ++ [m]).length = k + 1 := by simp [HL.out]
      rw [← e1, numF_all, e1] at hrd
      have hB2 : Below w.heap.size w (wr.setCell ⟨w.heap.size, k, none⟩ (.int .u8 (m : Nat))) := hB.setCell (by simp) _
      refine (put_any A (some ⟨w.heap.size, 0, none⟩) cap 10 l (k + 1) xs ((pre ++ [m]).map bv) _ ((HR.out.below hB2).more hB2.size) hrd h1 (bv_one _) (by omega)).mono ?_
      rintro e w2 ⟨v, rfl, ho, hb3⟩
      go_wp2
      go_ret
      have e3 : putN n = pre ++ [m] := by rw [HP.out, hs.out]
      refine ⟨v, rfl, ?_, hB2.trans (hb3.mono hB2.size)⟩
      rw [e3]
      exact own_baseO ho hB2.size
    · have hs := Lib.hid (putN_big hb)
      have h2 : 0 < (putN (m / 128)).length := putN_pos _
      have hl2 : (putN m).length = (putN (m / 128)).length + 1 := by rw [hs.out]; rfl
      have HP := Lib.hid hpn
      have HL := Lib.hid hpl
      have x1 := or128 m
      have hk9 : k < 10 := by omega
      clear hpn hpl h10 hl2
      go_wp2
      have hset : (wr.setCell ⟨w.heap.size, k, none⟩ (.int .u8 (m % 128 + 128 : Nat))).rowIs w.heap.size 126 10 (numF (pre ++ [m % 128 + 128])) :=
        (hRow.out.set k (bv (m % 128 + 128))).congr fun j _ => by
          have := numF_step pre (m % 128 + 128) j
          rw [HL.out] at this
          exact this
      exact ⟨⟨k + 1, m / 128, by omega, by simp, by go_num, pre ++ [m % 128 + 128], by simp [HL.out], by rw [HP.out, hs.out]; simp, hset, hB.setCell (by simp) _⟩, by simp [intOf]; omega⟩
set_option maxRecDepth 100000 in
set_option maxHeartbeats 1000000 in
theorem putbytes_any (A B : Option Addr) (cap cap' l m : Nat) (xs ys : List Value) (w : World) (hr : Reads w w.heap.size 1 A l xs) (h1 : ∀ u ∈ xs, u.oneCell' = true) (hr' : Reads w w.heap.size 1 B m ys) (h2 : ∀ u ∈ ys, u.oneCell' = true) (hm : l + (putN m).length + m ≤ 140737488351232) :
    Calls Tryz.prog 29 #[.slice A l cap, .slice B m cap'] w (RetS 5 (xs ++ (putN m).map bv ++ ys) w) := by
  have HR := Lib.hid hr
  have HR' := Lib.hid hr'
  have hl : xs.length = l := by simpa using hr.1
  have hl' : ys.length = m := by simpa using hr'.1
  have h10 := putN_len10 (n := m) (by omega)
  clear hr hr'
  go_enter Tryz.func29, Tryz.ntmps29
  go_wp2_with fail
  refine (putnum_any A cap l m xs _ HR.out h1 (by omega) (by omega)).mono ?_
  rintro e w1 ⟨v, rfl, ho, hb⟩
  have HO := Lib.hid ho
  clear ho
  go_wp2_with (at_builtin
               refine wpl_append rfl (.tmp 9) (.tmp 10) _ rfl w w.heap.size 5 _ 1 1 Tryz.underlying33 Tryz.infoU8 rfl (by decide) v (xs ++ (putN m).map bv).length (xs ++ (putN m).map bv) rfl ?own w.heap.size B m cap' ys rfl ?rd h2 ?byt (by decide) ?bel ?base ?_
               case own => exact HO.out
               case rd => exact HR'.out.below hb
               case byt => rw [List.length_append, List.length_map]; omega
               case bel => exact hb
               case base => exact hb.size
               intro v2 w2 hh)
  go_ret
  refine ⟨v2, rfl, ?_, hh.out.2.1⟩
  have h := hh.out.1
  rw [show (xs ++ (putN m).map bv ++ ys).length = (xs ++ (putN m).map bv).length + m from by rw [List.length_append, hl']]
  exact h
set_option maxRecDepth 100000 in
set_option maxHeartbeats 1000000 in
theorem putflag_any (f : Bool) (A : Option Addr) (cap l : Nat) (xs : List Value) (w : World) (hr : Reads w w.heap.size 1 A l xs) (h1 : ∀ u ∈ xs, u.oneCell' = true) (hm : l ≤ 140737488351232) :
    Calls Tryz.prog 25 #[.slice A l cap, .bool f] w (RetS 5 (xs ++ [bv f.toNat]) w) := by
  have HR := Lib.hid hr
  clear hr
  rcases f with _ | _
  all_goals
    go_enter Tryz.func25, Tryz.ntmps25
    go_wp2_with fail
  · refine (put_any A (some ⟨w.heap.size, 0, none⟩) cap 1 l 1 xs [bv 0] _ ((HR.out.alloc (Nat.le_refl _) _).more (by simp)) ((Reads.lit1 w 5 (bv 0)).more (by simp)) h1 (bv_one [0]) (by omega)).mono ?_
    rintro e w2 ⟨v, rfl, ho, hb⟩
    go_wp2
    go_ret
    exact ⟨v, rfl, own_baseO ho (by simp), ((Below.refl _ _).alloc (Nat.le_refl _) _).trans (hb.mono (by simp))⟩
  · refine (put_any A (some ⟨w.heap.size, 0, none⟩) cap 1 l 1 xs [bv 1] _ ((HR.out.alloc (Nat.le_refl _) _).more (by simp)) ((Reads.lit1 w 5 (bv 1)).more (by simp)) h1 (bv_one [1]) (by omega)).mono ?_
    rintro e w2 ⟨v, rfl, ho, hb⟩
    go_wp2
    go_ret
    exact ⟨v, rfl, own_baseO ho (by simp), ((Below.refl _ _).alloc (Nat.le_refl _) _).trans (hb.mono (by simp))⟩
theorem zz_pos {n : Int} (h : 0 ≤ n) (h2 : n ≤ 9223372036854775807) : ((zz n : Nat) : Int) = 2 * n := by unfold zz; rw [if_pos h]; omega
theorem zz_neg {n : Int} (h : n < 0) : ((zz n : Nat) : Int) = -2 * n - 1 := by unfold zz; rw [if_neg (by omega)]; omega
theorem zz_lt {n : Int} (h1 : -9223372036854775808 ≤ n) (h2 : n ≤ 9223372036854775807) : zz n < 18446744073709551616 := by
  unfold zz; split <;> omega
theorem zzx_pos {n : Int} (h : 0 ≤ n) (h2 : n ≤ 9223372036854775807) : bits .xor .u64 (n * 2) (n / 9223372036854775808) = ((zz n : Nat) : Int) := by
  have h3 := zz_pos h h2
  have h4 := u64_xor_nat (zz n) 0 (by omega) (by omega)
  rw [Nat.xor_zero, h3] at h4
  rw [show n / 9223372036854775808 = 0 from by omega, show n * 2 = 2 * n from by omega, h3]
  exact h4
theorem xor_ones (a : Nat) (h : a < 18446744073709551616) : a ^^^ 18446744073709551615 = 18446744073709551615 - a := by
  have h1 := congrArg BitVec.toNat (BitVec.xor_allOnes (x := BitVec.ofNat 64 a))
  rw [BitVec.toNat_xor, BitVec.toNat_not, BitVec.toNat_ofNat, BitVec.toNat_allOnes] at h1
  have h2 : a % 2 ^ 64 = a := Nat.mod_eq_of_lt h
  rw [h2] at h1
  exact h1
theorem zzx_neg {n : Int} (h1 : -9223372036854775808 ≤ n) (h2 : n < 0) : bits .xor .u64 (IntKind.u64.wrap (IntKind.u64.wrap n * 2)) (IntKind.u64.wrap (n / 9223372036854775808)) = ((zz n : Nat) : Int) := by
  have e1 : IntKind.u64.wrap n = n + 18446744073709551616 := by rw [IntKind.wrap_u64]; omega
  have e2 : IntKind.u64.wrap ((n + 18446744073709551616) * 2) = 2 * n + 18446744073709551616 := by rw [IntKind.wrap_u64]; omega
  have e3 : IntKind.u64.wrap (n / 9223372036854775808) = 18446744073709551615 := by
    rw [show n / 9223372036854775808 = -1 from by omega, IntKind.wrap_u64]; omega
  have h3 := zz_neg h2
  obtain ⟨a, ha⟩ : ∃ a : Nat, 2 * n + 18446744073709551616 = (a : Int) := ⟨(2 * n + 18446744073709551616).toNat, by omega⟩
  have h4 := u64_xor_nat a 18446744073709551615 (by omega) (by omega)
  rw [xor_ones a (by omega)] at h4
  rw [e1, e2, e3, ha]
  refine h4.trans ?_
  omega
set_option maxRecDepth 100000 in
set_option maxHeartbeats 1000000 in
theorem putint_any (A : Option Addr) (cap l : Nat) (n : Int) (xs : List Value) (w : World) (hr : Reads w w.heap.size 1 A l xs) (h1 : ∀ u ∈ xs, u.oneCell' = true) (n1 : -9223372036854775808 ≤ n) (n2 : n ≤ 9223372036854775807) (hm : l ≤ 140737488351232) :
    Calls Tryz.prog 23 #[.slice A l cap, .int .i64 n] w (RetS 5 (xs ++ (putN (zz n)).map bv) w) := by
  have HR := Lib.hid hr
  clear hr
  by_cases hs : 0 ≤ n
  · go_enter Tryz.func23, Tryz.ntmps23
    go_wp2_with fail
    rw [zzx_pos hs n2]
    refine (putnum_any A cap l (zz n) xs _ HR.out h1 (zz_lt n1 n2) hm).mono ?_
    rintro e w2 h
    obtain ⟨v, rfl, h3⟩ := h
    go_wp2
    go_ret
    exact ⟨v, rfl, h3⟩
  · go_enter Tryz.func23, Tryz.ntmps23
    go_wp2_with fail
    rw [zzx_neg n1 (by omega)]
    refine (putnum_any A cap l (zz n) xs _ HR.out h1 (zz_lt n1 n2) hm).mono ?_
    rintro e w2 h
    obtain ⟨v, rfl, h3⟩ := h
    go_wp2
    go_ret
    exact ⟨v, rfl, h3⟩
end Go.Proofs.YtlnneacgllhdhaaGreatDoor
end
section
namespace Go.Proofs.YtlnneacgllhdhaaGreatDoor
open Go.RowKit OctMath
set_option linter.unusedVariables false
set_option maxRecDepth 100000 in
set_option maxHeartbeats 400000 in
theorem same_any (A B : Option Addr) (cap cap' n m : Nat) (xs ys : List Nat) (w : World) (hx : Byt xs) (hy : Byt ys) (hr : Reads w w.heap.size 1 A n (xs.map bv)) (hr' : Reads w w.heap.size 1 B m (ys.map bv)) :
    Calls Tryz.prog 8 #[.slice A n cap, .slice B m cap'] w fun e w' => e = .returned (.bool (decide (xs = ys))) ∧ w = w' := by
  have h1 := run_conv_bytes (P := Tryz.prog) (src := 33) (dst := 9) (cap := cap) Tryz.underlying33 Tryz.underlying5 Tryz.underlying9 hr
  have h2 := run_conv_bytes (P := Tryz.prog) (src := 33) (dst := 9) (cap := cap') Tryz.underlying33 Tryz.underlying5 Tryz.underlying9 hr'
  have h3 := strOf_beq hx hy
  go_enter Tryz.func8, Tryz.ntmps8
  go_wp2
  go_ret
  exact ⟨rfl, rfl⟩
end Go.Proofs.YtlnneacgllhdhaaGreatDoor
end
section
namespace Go.Proofs.YtlnneacgllhdhaaGreatDoor
open Go.RowKit OctMath
set_option linter.unusedVariables false
theorem pow128 (i : Nat) : (2 : Nat) ^ (7 * i) = 128 ^ i := by rw [Nat.pow_mul]
theorem or_add (acc d i : Nat) (h : acc < 128 ^ i) : acc ||| d * 128 ^ i = acc + d * 128 ^ i := by
  rw [← pow128] at h ⊢
  have := Nat.two_pow_add_eq_or_of_lt h d
  rw [Nat.or_comm, Nat.mul_comm d, ← this, Nat.add_comm]
theorem num_step (i acc d : Nat) (hi : i ≤ 9) (hacc : acc < 128 ^ i) (hd : d < 128) (h9 : i = 9 → d ≤ 1) :
    IntKind.u64.wrap ((d : Int) * 2 ^ (7 * i)) = ((d * 128 ^ i : Nat) : Int) ∧ bits .or .u64 (acc : Int) ((d * 128 ^ i : Nat) : Int) = ((acc + d * 128 ^ i : Nat) : Int) ∧ acc + d * 128 ^ i < 128 ^ (i + 1) ∧ d * 128 ^ i < 18446744073709551616 := by
  have hb : acc + d * 128 ^ i < 18446744073709551616 := by
    rcases Nat.lt_or_ge i 9 with h | h
    · have h1 : 128 ^ i ≤ 128 ^ 8 := Nat.pow_le_pow_right (by omega) (by omega)
      have h2 : d * 128 ^ i ≤ 127 * 128 ^ 8 := Nat.mul_le_mul (by omega) h1
      have h3 : (127 : Nat) * 128 ^ 8 = 9151314442816847872 := by decide
      have h4 : (128 : Nat) ^ 8 = 72057594037927936 := by decide
      omega
    · obtain rfl : i = 9 := by omega
      have h1 : d ≤ 1 := h9 rfl
      have h4 : (128 : Nat) ^ 9 = 9223372036854775808 := by decide
      have h2 : d * 128 ^ 9 ≤ 1 * 128 ^ 9 := Nat.mul_le_mul_right _ h1
      omega
  have hs : d * 128 ^ i < 18446744073709551616 := by omega
  have e1 : (d : Int) * 2 ^ (7 * i) = ((d * 128 ^ i : Nat) : Int) := by rw [← pow128, Int.natCast_mul, Int.natCast_pow]; rfl
  refine ⟨?_, ?_, ?_, hs⟩
  · rw [e1]; exact IntWalk.u64_in _ (by omega)
  · rw [u64_or_nat acc (d * 128 ^ i) (by omega) hs, or_add acc d i hacc]
  · rw [Nat.pow_succ]
    have : d * 128 ^ i ≤ 127 * 128 ^ i := Nat.mul_le_mul_right _ (by omega)
    omega
theorem and127_8 (c : Nat) (h : c < 256) : bits .and .u8 (c : Int) 127 = ((c % 128 : Nat) : Int) := by
  have h1 := u8_and_nat c 127 h (by omega)
  rw [show c &&& 127 = c % 128 from Nat.and_two_pow_sub_one_eq_mod c 7] at h1
  exact h1
theorem ret3_nat' {n : Nat} {p p' : Int} {m : Int} {e : Int} (h1 : m = (n : Int)) (h2 : p = p') :
    Ending.returned (.tuple #[.int .u64 m, .int .i64 p, .int .i64 e]) = .returned (.tuple #[.int .u64 (n : Int), .int .i64 p', .int .i64 e]) := by rw [h1, h2]
set_option maxRecDepth 100000 in
set_option maxHeartbeats 1000000 in
theorem number_out (A : Option Addr) (cap n : Nat) (at_ : Int) (w : World) (h : at_ < 0 ∨ (n : Int) < at_) (hm : n ≤ maxLen) :
    Calls Tryz.prog 46 #[.slice A n cap, .int .i64 at_] w fun e w' => e = .returned (.tuple #[.int .u64 0, .int .i64 0, .int .i64 2]) ∧ w = w' := by
  unfold maxLen at hm
  by_cases h0 : at_ < 0
  · go_enter Tryz.func46, Tryz.ntmps46
    go_wp2
    go_ret3
    exact ⟨rfl, rfl⟩
  · have h1 : (n : Int) < at_ := by omega
    clear h
    go_enter Tryz.func46, Tryz.ntmps46
    go_wp2
    go_ret3
    exact ⟨rfl, rfl⟩
set_option maxRecDepth 100000 in
set_option maxHeartbeats 1000000 in
theorem number_in (A : Option Addr) (cap n k : Nat) (bs : List Nat) (w : World) (hb : Byt bs) (hn : bs.length = n) (hr : Reads w w.heap.size 1 A n (bs.map bv)) (hk : k ≤ n) (hc : n ≤ cap) (hm : cap ≤ maxLen) :
    Calls Tryz.prog 46 #[.slice A n cap, .int .i64 k] w fun e w' => e = .returned (.tuple #[.int .u64 (rdN bs k).1, .int .i64 (rdN bs k).2.1, .int .i64 (rdN bs k).2.2]) ∧ w = w' := by
  unfold maxLen at hm
  obtain ⟨i0, hi, h2, h3, h4⟩ := info_parts Tryz.infoU8
  have hsl := slice_from Tryz.underlying33 hi h3 A n cap k hk hc
  have hcut := hr.cut hk hc
  rw [← List.map_drop, Nat.mul_one] at hcut
  rw [Nat.mul_one] at hsl
  obtain ⟨A2, hA2⟩ : ∃ A2, (if cap = k then A else A.map (·.add k)) = A2 := ⟨_, rfl⟩
  rw [hA2] at hsl hcut
  have hds : Byt (bs.drop k) := hb.drop k
  have hdl : (bs.drop k).length = n - k := by simp [hn]
  obtain ⟨ds, hdd⟩ : ∃ ds, bs.drop k = ds := ⟨_, rfl⟩
  have hrd : rdN bs k = (let r := rdF ds 0 0; if r.2.2 = 0 then (r.1, (k : Int) + r.2.1, 0) else (0, 0, r.2.2)) := by
    unfold rdN
    rw [if_neg (by omega), show ((k : Int)).toNat = k from by omega, hdd]
  rw [hdd] at hcut hds hdl
  have RD := Lib.hid hrd
  have hkb : decide ((k : Int) < 0) = false := by simp
  obtain ⟨L, hL⟩ : ∃ L, n - k = L := ⟨_, rfl⟩
  rw [hL] at hsl hdl hcut
  have HR := Lib.hid hcut
  have hLm : L ≤ 9223372036854775807 := by omega
  have hpL : k + L ≤ 9223372036854775807 := by omega
  have hk2 : (k : Int) ≤ n := by omega
  clear hr hcut hrd hA2 hdd hb hn hi h2 h3 h4 hL
  go_enter Tryz.func46, Tryz.ntmps46
  go_wp2
  go_loop [7, 22] (fun vn vi => ∃ i acc : Nat, i ≤ L ∧ i ≤ 9 ∧ acc < 128 ^ i ∧ vi = .int .i64 i ∧ vn = .int .u64 acc ∧ rdF (ds.drop i) i acc = rdF ds 0 0) (fun _ vi => L - (intOf vi).toNat)
  case atStart => exact ⟨0, 0, by omega, by omega, by decide, rfl, rfl, rfl⟩
  case round =>
    obtain ⟨i, acc, hi, hi9, hacc, rfl, rfl, hrel⟩ := hrel
    by_cases hlt : i < L
    · obtain ⟨ad, rfl, hbl, hcell⟩ := HR.out.byteD hlt
      have hcb := hds.getD i
      have hdrop : ds.drop i = ds.getD i 0 :: ds.drop (i + 1) := by
        rw [List.drop_eq_getElem_cons (by omega), List.getD_eq_getElem?_getD, List.getElem?_eq_getElem (by omega)]; rfl
      obtain ⟨c, hc0⟩ : ∃ c, ds.getD i 0 = c := ⟨_, rfl⟩
      rw [hc0] at hcell hcb hdrop
      rw [hdrop, rdF] at hrel
      have H := Lib.hid hrel
      clear hrel hdrop hc0
      by_cases hbad : (i = 9 ∧ 1 < c) ∨ (0 < i ∧ c = 0)
      · have hr := H.out
        rw [if_pos hbad] at hr
        have R1 := Lib.hid hr
        have hres : rdN bs k = (0, 0, 41) := by rw [RD.out, ← R1.out]; rfl
        have HS := Lib.hid hres
        clear hr hres
        by_cases hc0 : c = 0
        · have hi0 : 0 < i := by omega
          have hcz : ((c : Int) == 0) = true := by simpa using hc0
          have hc1 : (c : Int) ≤ 1 := by omega
          clear hbad H
          have HC := Lib.hid hc0
          clear hc0
          rcases hb9 : ((i : Int) == 9) with _ | _
          all_goals
            go_wp2
            go_ret3
            exact ⟨by rw [HS.out]; rfl, rfl⟩
        · have hi9' : i = 9 := by omega
          have hb9 : ((i : Int) == 9) = true := by rw [hi9']; rfl
          have hc1 : 1 < c := by omega
          have HI := Lib.hid hi9'
          clear hbad H hi9'
          go_wp2
          go_ret3
          exact ⟨by rw [HS.out]; rfl, rfl⟩
      · have hr := H.out
        rw [if_neg hbad] at hr
        have a1 := and127_8 c hcb
        have hd : c % 128 < 128 := by omega
        have h91 : i = 9 → c % 128 ≤ 1 := by omega
        have h99 : 128 ≤ c → i < 9 := by omega
        obtain ⟨d, ed⟩ : ∃ d, c % 128 = d := ⟨_, rfl⟩
        rw [ed] at a1 hd h91 hr
        obtain ⟨n1, n2, n3, n4⟩ := num_step i acc d hi9 hacc hd h91
        obtain ⟨s, es⟩ : ∃ s, d * 128 ^ i = s := ⟨_, rfl⟩
        rw [es] at n1 n2 n3 n4 hr
        have HR1 := Lib.hid hr
        have N3 := Lib.hid n3
        have hsum : 0 ≤ (i : Int) + 1 := by omega
        clear hr es ed n3 H h91 hacc
        by_cases hlo : c < 128
        · have hr2 := HR1.out
          rw [if_pos hlo] at hr2
          have hres : rdN bs k = (acc + s, (k : Int) + ((i + 1 : Nat) : Int), 0) := by rw [RD.out, ← hr2]; rfl
          have HS := Lib.hid hres
          have hfin : ∀ x : Nat, ((acc + s : Nat) : Int) = x → True := fun _ _ => trivial
          clear hr2 hres hfin HR1
          by_cases h0 : i = 0
          · have i1 : ((i : Int) == 9) = false := by rw [h0]; rfl
            have i2 : ¬ 0 < i := by omega
            have H0 := Lib.hid h0
            clear h0 hbad
            go_wp2
            go_ret3
            exact ⟨by rw [HS.out]; exact ret3_nat' rfl (by show _ = (k : Int) + ((i + 1 : Nat) : Int); omega), rfl⟩
          · have i2 : 0 < i := by omega
            have hcz : ((c : Int) == 0) = false := by rw [beq_eq_false_iff_ne]; omega
            rcases hb9 : ((i : Int) == 9) with _ | _
            · clear hbad
              go_wp2
              go_ret3
              exact ⟨by rw [HS.out]; exact ret3_nat' rfl (by show _ = (k : Int) + ((i + 1 : Nat) : Int); omega), rfl⟩
            · have hc1 : c ≤ 1 := by
                have : i = 9 := by have := eq_of_beq hb9; omega
                omega
              clear hbad
              go_wp2
              go_ret3
              exact ⟨by rw [HS.out]; exact ret3_nat' rfl (by show _ = (k : Int) + ((i + 1 : Nat) : Int); omega), rfl⟩
        · have hr2 := HR1.out
          rw [if_neg hlo] at hr2
          have HS := Lib.hid hr2
          have hi8 : i < 9 := h99 (by omega)
          have i1 : ((i : Int) == 9) = false := by rw [beq_eq_false_iff_ne]; omega
          have hcz : ((c : Int) == 0) = false := by rw [beq_eq_false_iff_ne]; omega
          clear hr2 HR1 h99 hbad
          by_cases h0 : 0 < i
          · go_wp2
            exact ⟨⟨i + 1, acc + s, by omega, by omega, N3.out, by go_num, rfl, HS.out⟩, by simp [intOf]; omega⟩
          · go_wp2
            exact ⟨⟨i + 1, acc + s, by omega, by omega, N3.out, by go_num, rfl, HS.out⟩, by simp [intOf]; omega⟩
    · obtain rfl : i = L := by omega
      rw [List.drop_of_length_le (by omega), rdF] at hrel
      have hres : rdN bs k = (0, 0, 40) := by rw [RD.out, ← hrel]; rfl
      have HS := Lib.hid hres
      clear hres hrel
      go_wp2
      go_ret3
      exact ⟨by rw [HS.out]; rfl, rfl⟩
end Go.Proofs.YtlnneacgllhdhaaGreatDoor
end
section
namespace Go.Proofs.YtlnneacgllhdhaaGreatDoor
open Go.RowKit OctMath
set_option linter.unusedVariables false
theorem number_any (A : Option Addr) (cap n : Nat) (at_ : Int) (bs : List Nat) (w : World) (hb : Byt bs) (hn : bs.length = n) (hr : Reads w w.heap.size 1 A n (bs.map bv)) (hc : n ≤ cap) (hm : cap ≤ maxLen) :
    Calls Tryz.prog 46 #[.slice A n cap, .int .i64 at_] w fun e w' => e = .returned (.tuple #[.int .u64 (rdN bs at_).1, .int .i64 (rdN bs at_).2.1, .int .i64 (rdN bs at_).2.2]) ∧ w = w' := by
  by_cases h : at_ < 0 ∨ (n : Int) < at_
  · have e : rdN bs at_ = (0, 0, 2) := by unfold rdN; rw [hn, if_pos h]
    rw [e]
    exact number_out A cap n at_ w h (by unfold maxLen at *; omega)
  · obtain ⟨k, rfl⟩ := Int.eq_ofNat_of_zero_le (show 0 ≤ at_ by omega)
    exact number_in A cap n k bs w hb hn hr (by omega) hc hm
theorem unz_even (n : Nat) (h : n < 18446744073709551616) (h2 : n % 2 = 0) : bits .xor .i64 ((n : Int) / 2) 0 = unz n := by
  have := xor_i64 (n / 2) 0 (by omega) (by omega)
  rw [Nat.xor_zero] at this
  unfold unz; rw [if_pos h2]; exact this
theorem unz_odd (n : Nat) (h : n < 18446744073709551616) (h2 : ¬ n % 2 = 0) : bits .xor .i64 ((n : Int) / 2) (-1) = unz n := by
  unfold unz; rw [if_neg h2]
  have e0 : ((n / 2 : Nat) : Int) = (n : Int) / 2 := by omega
  rw [← e0]
  obtain ⟨m, hm⟩ : ∃ m, n / 2 = m := ⟨_, rfl⟩
  have hm2 : m < 9223372036854775808 := by omega
  rw [hm]
  have e1 : (BitVec.ofInt 64 (-1)).toNat = 18446744073709551615 := by decide
  show IntKind.i64.wrap ((BitVec.ofInt 64 (m : Int) ^^^ BitVec.ofInt 64 (-1)).toNat : Int) = _
  rw [BitVec.toNat_xor, ofInt_i64 m (by omega), e1, xor_ones m (by omega), IntKind.wrap_i64]
  omega
theorem and1_u64 (n : Nat) (h : n < 18446744073709551616) : bits .and .u64 (n : Int) 1 = ((n % 2 : Nat) : Int) := by
  have := u64_and_nat n 1 h (by omega)
  rw [Nat.and_one_is_mod] at this
  exact this
set_option maxRecDepth 100000 in
set_option maxHeartbeats 1000000 in
theorem int_any (A : Option Addr) (cap n : Nat) (at_ : Int) (bs : List Nat) (w : World) (hb : Byt bs) (hn : bs.length = n) (hr : Reads w w.heap.size 1 A n (bs.map bv)) (hc : n ≤ cap) (hm : cap ≤ maxLen) :
    Calls Tryz.prog 44 #[.slice A n cap, .int .i64 at_] w fun e w' => e = .returned (.tuple #[.int .i64 (unz (rdN bs at_).1), .int .i64 (rdN bs at_).2.1, .int .i64 (rdN bs at_).2.2]) ∧ w = w' := by
  obtain ⟨h1, h2, h3⟩ := rdN_lt bs at_ hb
  have HC := Lib.hid (number_any A cap n at_ bs w hb hn hr hc hm)
  obtain ⟨v, hv⟩ : ∃ v, (rdN bs at_).1 = v := ⟨_, rfl⟩
  obtain ⟨p, hp⟩ : ∃ p, (rdN bs at_).2.1 = p := ⟨_, rfl⟩
  obtain ⟨er, he⟩ : ∃ er, (rdN bs at_).2.2 = er := ⟨_, rfl⟩
  rw [hv, hp, he] at HC
  rw [hv] at h1
  rw [hv, hp, he]
  clear hv hp he h2 h3 hr
  have a1 := and1_u64 v h1
  by_cases ho : v % 2 = 0
  · have a2 := unz_even v h1 ho
    rw [ho] at a1
    have H := Lib.hid ho
    clear ho
    go_enter Tryz.func44, Tryz.ntmps44
    go_wp2_with (go_at_call 46; refine HC.out.mono ?_; rintro e w' ⟨rfl, rfl⟩)
    go_ret3
    exact ⟨rfl, rfl⟩
  · have a2 := unz_odd v h1 ho
    rw [show v % 2 = 1 from by omega] at a1
    have H := Lib.hid ho
    clear ho
    go_enter Tryz.func44, Tryz.ntmps44
    go_wp2_with (go_at_call 46; refine HC.out.mono ?_; rintro e w' ⟨rfl, rfl⟩)
    go_ret3
    exact ⟨rfl, rfl⟩
/-- What Bytes answers: a fresh slice (or nil), the place, the error. -/
def RetB3 (r : List Nat × Int × Nat) (w : World) (e : Ending) (w' : World) : Prop :=
  ∃ (A : Option Addr) (n cap : Nat), e = .returned (.tuple #[.slice A n cap, .int .i64 r.2.1, .int .i64 r.2.2]) ∧ Reads w' w'.heap.size 1 A n (r.1.map bv) ∧ n ≤ cap ∧ cap ≤ maxLen ∧ Below w.heap.size w w'
theorem retB3_nil (er : Nat) (w : World) : RetB3 ([], 0, er) w (.returned (.tuple #[.slice none 0 0, .int .i64 0, .int .i64 er])) w :=
  ⟨none, 0, 0, rfl, Reads.none_, Nat.le_refl _, by unfold maxLen; omega, Below.refl _ _⟩
set_option maxRecDepth 100000 in
set_option maxHeartbeats 1000000 in
theorem bytes_any (A : Option Addr) (cap n : Nat) (at_ most : Int) (bs : List Nat) (w : World) (hb : Byt bs) (hn : bs.length = n) (hr : Reads w w.heap.size 1 A n (bs.map bv)) (hc : n ≤ cap) (hm : cap ≤ maxLen) (hn2 : n ≤ 140737488351232) (hmo : most ≤ 9223372036854775807) :
    Calls Tryz.prog 98 #[.slice A n cap, .int .i64 at_, .int .i64 most] w (RetB3 (rdB bs at_ most) w) := by
  obtain ⟨h1, h2, h3⟩ := rdN_lt bs at_ hb
  have HC := Lib.hid (number_any A cap n at_ bs w hb hn hr hc hm)
  have hdef : rdB bs at_ most = (if (rdN bs at_).2.2 ≠ 0 then ([], 0, (rdN bs at_).2.2)
      else if most < 0 ∨ most < (rdN bs at_).1 ∨ (bs.length : Int) - (rdN bs at_).2.1 < (rdN bs at_).1 then ([], 0, 40)
      else ((bs.drop (rdN bs at_).2.1.toNat).take (rdN bs at_).1, (rdN bs at_).2.1 + (rdN bs at_).1, 0)) := rfl
  obtain ⟨v, hv⟩ : ∃ v, (rdN bs at_).1 = v := ⟨_, rfl⟩
  obtain ⟨p0, hp⟩ : ∃ p, (rdN bs at_).2.1 = p := ⟨_, rfl⟩
  obtain ⟨er, he⟩ : ∃ er, (rdN bs at_).2.2 = er := ⟨_, rfl⟩
  rw [hv, hp, he] at HC hdef
  rw [hv] at h1
  rw [hp] at h2 h3
  obtain ⟨p, rfl⟩ := Int.eq_ofNat_of_zero_le h2
  rw [hn] at h3 hdef
  have HR := Lib.hid hr
  have HD := Lib.hid hdef
  clear hv hp he hr hdef
  by_cases e0 : er = 0
  · have eb : ((er : Int) != 0) = false := by rw [e0]; rfl
    have hd2 := HD.out
    rw [if_neg (by simp [e0])] at hd2
    by_cases hbad : most < 0 ∨ most < v ∨ (n : Int) - p < v
    · rw [if_pos hbad] at hd2
      rw [hd2]
      have E0 := Lib.hid e0
      clear HD hd2 e0
      by_cases c1 : most < 0
      · clear hbad
        go_enter Tryz.func98, Tryz.ntmps98
        go_wp2_with (go_at_call 46; refine HC.out.mono ?_; rintro e w' ⟨rfl, rfl⟩)
        go_ret3
        exact retB3_nil 40 _
      · have c1' : 0 ≤ most := by omega
        by_cases c2 : most < v
        · clear hbad
          go_enter Tryz.func98, Tryz.ntmps98
          go_wp2_with (go_at_call 46; refine HC.out.mono ?_; rintro e w' ⟨rfl, rfl⟩)
          go_ret3
          exact retB3_nil 40 _
        · have c3 : (n : Int) - p < v := by omega
          have c4 : (v : Int) ≤ most := by omega
          clear hbad
          go_enter Tryz.func98, Tryz.ntmps98
          go_wp2_with (go_at_call 46; refine HC.out.mono ?_; rintro e w' ⟨rfl, rfl⟩)
          go_ret3
          exact retB3_nil 40 _
    · rw [if_neg hbad] at hd2
      rw [hd2]
      have E0 := Lib.hid e0
      clear HD hd2 e0
      have c1 : 0 ≤ most := by omega
      have c2 : (v : Int) ≤ most := by omega
      have c3 : (v : Int) ≤ (n : Int) - p := by omega
      have c4 : p + v ≤ n := by omega
      clear hbad
      obtain ⟨i0, hi, k2, k3, k4⟩ := info_parts Tryz.infoU8
      have hsl : ∀ W : World, (Instr.sliceAt 33 (.slice A n cap) (some (.int .i64 (p : Int))) (some (.int .i64 ((p : Int) + (v : Int)))) none).run Tryz.prog W = .ok (.slice (if cap = p then A else A.map (·.add (p * 1))) v (cap - p)) W := fun W => by
        have := slice_both Tryz.underlying33 hi k3 A n cap p (p + v) (by omega) (by omega) W
        rw [show p + v - p = v from by omega, Int.natCast_add] at this
        exact this
      have hcut := HR.out.cut (k := p) (by omega) hc
      obtain ⟨A2, hA2⟩ : ∃ A2, (if cap = p then A else A.map (·.add (p * 1))) = A2 := ⟨_, rfl⟩
      rw [hA2] at hsl hcut
      rw [Nat.mul_one, ← List.map_drop] at hcut
      have hlen : ((bs.drop p).take v).length = v := by simp [hn]; omega
      have hrd : Reads w w.heap.size 1 A2 v (((bs.drop p).take v).map bv) := by
        refine ⟨by rw [List.length_map, hlen, Nat.mul_one], fun hv0 => ?_⟩
        obtain ⟨ad, ea, hbl, hcells⟩ := hcut.2 (by omega)
        refine ⟨ad, ea, hbl, fun j u hu => hcells j u ?_⟩
        rw [List.map_take] at hu
        have hj : j < v := by
          have := (List.getElem?_eq_some_iff.1 hu).1
          rw [List.length_take] at this; omega
        rw [List.getElem?_take_of_lt hj] at hu
        exact hu
      obtain ⟨zs, hz⟩ : ∃ zs, (bs.drop p).take v = zs := ⟨_, rfl⟩
      rw [hz] at hrd hlen
      rw [show (bs.drop ((p : Int)).toNat).take v = zs from hz]
      have HRD := Lib.hid hrd
      have HL := Lib.hid hlen
      clear hcut hA2 hrd hlen hi k2 k3 k4 hz
      go_enter Tryz.func98, Tryz.ntmps98
      go_wp2_with (go_at_call 46; refine HC.out.mono ?_; rintro e w' ⟨rfl, rfl⟩)
      refine (put_any A2 none (cap - p) 0 v 0 (zs.map bv) [] _ HRD.out Reads.none_ (bv_one _) (by simp) (by omega)).mono ?_
      rintro e w2 h
      obtain ⟨A3, c3', rfl, hr3, hc3, hm3, hb3, _⟩ := h.open
      rw [List.append_nil, List.length_map, HL.out] at hr3 hc3 ⊢
      have HR3 := Lib.hid hr3
      have HC3 := Lib.hid hc3
      have HM3 := Lib.hid hm3
      clear h hr3 hc3 hm3
      go_wp2
      go_ret3
      exact ⟨A3, v, c3', rfl, HR3.out, HC3.out, HM3.out, hb3⟩
  · have eb : ((er : Int) != 0) = true := by rw [bne_iff_ne]; omega
    have hd2 := HD.out
    rw [if_pos e0] at hd2
    rw [hd2]
    clear HD hd2
    go_enter Tryz.func98, Tryz.ntmps98
    go_wp2_with (go_at_call 46; refine HC.out.mono ?_; rintro e w' ⟨rfl, rfl⟩)
    go_ret3
    exact retB3_nil er _
end Go.Proofs.YtlnneacgllhdhaaGreatDoor
end
