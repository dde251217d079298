/-
  The walks of the straws' costs, the program's and the reference's.
-/
import Derived.Test.YtmdffmajnbokeaaStrW2
import Derived.Lib.ConvBytes
namespace Go.Proofs.Ytmdffmajnbokeaa
open Go.RowKit StrMath
set_option linter.unusedVariables false
theorem and_65535 (h : Nat) (hh : h < 18446744073709551616) : bits .and .u64 (h : Int) 65535 = ((h % 65536 : Nat) : Int) := by
  have := u64_and_nat h 65535 hh (by omega)
  rw [show (65535 : Nat) = 2 ^ 16 - 1 from rfl, Nat.and_two_pow_sub_one_eq_mod] at this
  exact this
set_option maxRecDepth 100000 in
theorem cost_any (h : Nat) (wt : Int) (w : World) (hh : h < 18446744073709551616) (ww : Lit.wf (.int .i64 wt)) :
    Calls Try.prog 25 #[.int .u64 h, .int .i64 wt] w fun e w' => e = .returned (.int .i64 (cost h wt)) ∧ w = w' := by
  have ha : -9223372036854775808 ≤ wt ∧ wt ≤ 9223372036854775807 := by simpa [Lit.wf, IntKind.min, IntKind.max, IntKind.signed, IntKind.bits] using ww
  clear ww
  by_cases h1 : wt < 1
  · have d1 : decide (wt < 1) = true := decide_eq_true h1
    have e0 : cost h wt = 9223372036854775807 := by unfold cost; rw [if_pos h1]
    rw [e0]
    go_enter Try.func25, Try.ntmps25
    go_wp2
    go_ret
    exact ⟨rfl, rfl⟩
  · have d1 : decide (wt < 1) = false := decide_eq_false h1
    have b1 := and_65535 h hh
    have b2 : h % 65536 < 65536 := Nat.mod_lt _ (by decide)
    have e0 : cost h wt = ((268435456 - (ln ((h % 65536 : Nat) + 1 : Int) : Int)) * 65536) / min wt 65535 := by unfold cost; rw [if_neg h1]
    obtain ⟨d, ed⟩ : ∃ d, h % 65536 = d := ⟨_, rfl⟩
    rw [ed] at b1 b2 e0
    have hl := fun W => ln_any ((d : Int) + 1) W (by simp [Lit.wf, IntKind.min, IntKind.max, IntKind.signed, IntKind.bits]; omega)
    have l1 := ln_le ((d : Int) + 1)
    obtain ⟨L, eL⟩ : ∃ L, ln ((d : Int) + 1) = L := ⟨_, rfl⟩
    rw [eL] at e0 hl l1
    rw [e0]
    have HL := Lib.hid hl
    clear e0 hl ed eL
    go_enter Try.func25, Try.ntmps25
    go_wp2_with fail
    refine (HL.out _).mono ?_
    rintro e w' ⟨rfl, rfl⟩
    go_wp2
    go_ret
    exact ⟨rfl, rfl⟩
set_option maxRecDepth 100000 in
theorem rcost_any (h : Nat) (wt : Int) (w : World) (hh : h < 18446744073709551616) (ww : Lit.wf (.int .i64 wt)) :
    Calls Try.prog 39 #[.int .u64 h, .int .i64 wt] w fun e w' => e = .returned (.int .i64 (cost h wt)) ∧ w = w' := by
  have ha : -9223372036854775808 ≤ wt ∧ wt ≤ 9223372036854775807 := by simpa [Lit.wf, IntKind.min, IntKind.max, IntKind.signed, IntKind.bits] using ww
  clear ww
  by_cases h1 : wt < 1
  · have d1 : decide (wt < 1) = true := decide_eq_true h1
    have e0 : cost h wt = 9223372036854775807 := by unfold cost; rw [if_pos h1]
    rw [e0]
    go_enter Try.func39, Try.ntmps39
    go_wp2
    go_ret
    exact ⟨rfl, rfl⟩
  · have d1 : decide (wt < 1) = false := decide_eq_false h1
    have b1 : (h : Int) % 65536 = ((h % 65536 : Nat) : Int) := by omega
    have b2 : h % 65536 < 65536 := Nat.mod_lt _ (by decide)
    have e0 : cost h wt = ((268435456 - (ln ((h % 65536 : Nat) + 1 : Int) : Int)) * 65536) / min wt 65535 := by unfold cost; rw [if_neg h1]
    obtain ⟨d, ed⟩ : ∃ d, h % 65536 = d := ⟨_, rfl⟩
    rw [ed] at b1 b2 e0
    have hl := fun W => rln_any ((d : Int) + 1) W (by simp [Lit.wf, IntKind.min, IntKind.max, IntKind.signed, IntKind.bits]; omega)
    have l1 := ln_le ((d : Int) + 1)
    obtain ⟨L, eL⟩ : ∃ L, ln ((d : Int) + 1) = L := ⟨_, rfl⟩
    rw [eL] at e0 hl l1
    rw [e0]
    have HL := Lib.hid hl
    clear e0 hl ed eL
    go_enter Try.func39, Try.ntmps39
    go_wp2_with fail
    refine (HL.out _).mono ?_
    rintro e w' ⟨rfl, rfl⟩
    go_wp2
    go_ret
    exact ⟨rfl, rfl⟩
/-- Texts. -/
def txS (c b : Nat) : Nat := (c ^^^ b) * 1099511628211 % 18446744073709551616
def txtS (c : Nat) (bs : List Nat) : Nat := bs.foldl txS c
def textN (bs : List Nat) : Nat := mixN (txtS 14695981039346656037 bs)
theorem txS_lt (c b : Nat) : txS c b < 18446744073709551616 := Nat.mod_lt _ (by decide)
theorem txtS_lt (bs : List Nat) : ∀ c, c < 18446744073709551616 → txtS c bs < 18446744073709551616 := by
  induction bs with
  | nil => intro c h; exact h
  | cons b bs ih => intro c _; exact ih _ (txS_lt c b)
theorem txtS_take (c : Nat) (bs : List Nat) (k : Nat) (h : k < bs.length) : txtS c (bs.take (k + 1)) = txS (txtS c (bs.take k)) (bs.getD k 0) := by
  rw [take_snocD bs k h]; unfold txtS; rw [List.foldl_append, List.foldl_cons, List.foldl_nil]
def natsOf (s : ByteArray) : List Nat := s.data.toList.map UInt8.toNat
theorem natsOf_len (s : ByteArray) : (natsOf s).length = s.size := by unfold natsOf; rw [List.length_map, Array.length_toList]; rfl
theorem natsOf_get (s : ByteArray) (k : Nat) (h : k < s.size) : (natsOf s).getD k 0 = (s[k]'h).toNat := by
  have h' : k < s.data.toList.length := by rw [Array.length_toList]; exact h
  unfold natsOf
  rw [List.getD_eq_getElem?_getD, List.getElem?_map, List.getElem?_eq_getElem h']
  rfl
theorem natsOf_lt (s : ByteArray) (k : Nat) : (natsOf s).getD k 0 < 256 := by
  unfold natsOf
  rw [List.getD_eq_getElem?_getD, List.getElem?_map]
  cases s.data.toList[k]? with
  | none => decide
  | some b => exact b.toNat_lt
/-- One step's equations, in the walk's own words. -/
theorem txt_eqs (c x : Nat) (hc : c < 18446744073709551616) (hx : x < 256) : ∃ d : Nat, bits .xor .u64 (c : Int) (x : Int) = (d : Int) ∧ IntKind.u64.wrap ((d : Int) * 1099511628211) = ((txS c x : Nat) : Int) := by
  refine ⟨c ^^^ x, u64_xor_nat c x hc (by omega), ?_⟩
  unfold txS
  rw [IntKind.wrap_u64]
  omega
set_option maxRecDepth 100000 in
theorem rtext_any (s : ByteArray) (w : World) (hs : s.size ≤ maxLen) :
    Calls Try.prog 29 #[.string s] w fun e w' => e = .returned (.int .u64 (textN (natsOf s) : Nat)) ∧ w = w' := by
  obtain ⟨n, en⟩ : ∃ n, s.size = n := ⟨_, rfl⟩
  have hl := natsOf_len s
  rw [en] at hl
  unfold maxLen at hs
  go_enter Try.func29, Try.ntmps29
  go_wp2
  go_loop [3, 4] (fun vc vi => ∃ k : Nat, k ≤ n ∧ vi = .int .i64 k ∧ vc = .int .u64 (txtS 14695981039346656037 ((natsOf s).take k) : Nat)) (fun _ vi => n - (intOf vi).toNat)
  case atStart => exact ⟨0, by omega, rfl, rfl⟩
  case round =>
    obtain ⟨k, hk, rfl, rfl⟩ := hrel
    have c1 := txtS_lt ((natsOf s).take k) 14695981039346656037 (by decide)
    obtain ⟨c, ec⟩ : ∃ c, txtS 14695981039346656037 ((natsOf s).take k) = c := ⟨_, rfl⟩
    by_cases hlt : k < n
    · have e1 := txtS_take 14695981039346656037 (natsOf s) k (by omega)
      have x1 := natsOf_lt s k
      have x2 := natsOf_get s k (by omega)
      rw [ec] at c1 e1 ⊢
      obtain ⟨x, ex⟩ : ∃ x, (natsOf s).getD k 0 = x := ⟨_, rfl⟩
      rw [ex] at e1 x1 x2
      obtain ⟨d, q1, q2⟩ := txt_eqs c x c1 x1
      have q3 : IntKind.u64.wrap ((s[k]'(by omega)).toNat : Int) = (x : Int) := by rw [← x2, IntKind.wrap_u64]; omega
      obtain ⟨y, ey⟩ : ∃ y, txS c x = y := ⟨_, rfl⟩
      rw [ey] at q2 e1
      have E1 := Lib.hid e1
      clear e1 x2 ec ex ey
      go_wp2
      exact ⟨⟨k + 1, by omega, by go_num, by rw [E1.out]⟩, by simp [intOf]; omega⟩
    · obtain rfl : k = n := by omega
      rw [List.take_of_length_le (by omega)] at c1 ec ⊢
      have EC := Lib.hid ec
      rw [ec] at c1 ⊢
      clear ec
      go_wp2_with fail
      refine (rmix_any c _ c1).mono ?_
      rintro e w' ⟨rfl, rfl⟩
      go_wp2
      go_ret
      exact ⟨by unfold textN; rw [EC.out]; rfl, rfl⟩
theorem bytesWorld_bel (w : World) (e : TypeId) (s : ByteArray) : Below w.heap.size w (Lib.bytesWorld w e s) := by
  have h : Below w.heap.size w (w.drew.alloc (.cells (Lib.bytesCells w e s) e)) := ((Below.refl _ _).drew).alloc (Nat.le_refl _) _
  refine ⟨h.os, h.tape, h.output, by rw [Lib.bytesWorld_size]; omega, fun j hj => Lib.bytesWorld_at_old w e s j hj⟩
theorem bytesWorld_reads (w : World) (e : TypeId) (s : ByteArray) : Reads (Lib.bytesWorld w e s) (w.heap.size + 1) 1 (some ⟨w.heap.size, 0, none⟩) s.size ((natsOf s).map bv) := by
  refine ⟨by rw [List.length_map, natsOf_len]; omega, fun _ => ⟨_, rfl, Nat.lt_succ_self _, fun j u hu => ?_⟩⟩
  have hj : j < s.size := by
    rw [← natsOf_len s, ← List.length_map (f := bv)]
    exact (List.getElem?_eq_some_iff.1 hu).1
  have h1 := Lib.bytesWorld_cell w e s j hj
  have h2 := natsOf_get s j hj
  have h3 : s.data.toList.getD j 0 = s[j]'hj := by
    rw [List.getD_eq_getElem?_getD, List.getElem?_eq_getElem (by rw [Array.length_toList]; exact hj)]
    rfl
  have h4 : ((natsOf s).map bv)[j]? = some (bv ((natsOf s).getD j 0)) := by
    rw [List.getElem?_map, List.getD_eq_getElem?_getD, List.getElem?_eq_getElem (by rw [natsOf_len]; exact hj)]; rfl
  rw [h4] at hu
  injection hu with hu
  rw [← hu, h2]
  have h5 : (⟨w.heap.size, 0, none⟩ : Addr).add j = ⟨w.heap.size, j, none⟩ := by unfold Addr.add; split <;> simp_all
  rw [h5, h1, h3]; rfl
set_option maxRecDepth 100000 in
theorem text_any (s : ByteArray) (w : World) (hs : s.size ≤ maxLen) :
    Calls Try.prog 28 #[.string s] w fun e w' => e = .returned (.int .u64 (textN (natsOf s) : Nat)) ∧ Below w.heap.size w w' := by
  obtain ⟨n, en⟩ : ∃ n, s.size = n := ⟨_, rfl⟩
  have hl := natsOf_len s
  rw [en] at hl
  unfold maxLen at hs
  have kc := fun W : World => Lib.run_convert_string_bytes (P := Try.prog) W 9 65 5 s Try.underlying9 Try.underlying65 Try.underlying5
  go_enter Try.func28, Try.ntmps28
  go_wp2
  clear kc
  have hB := bytesWorld_bel w 5 s
  have hR := bytesWorld_reads w 5 s
  revert hB hR
  generalize Lib.bytesWorld w 5 s = W1
  intro hB hR
  rw [en] at hR
  have HR := Lib.hid hR
  have HB := Lib.hid hB
  clear hB hR
  go_loop [3, 5, 9] (fun vc vb vi => ∃ k : Nat, k ≤ n ∧ vi = .int .i64 k ∧ vc = .int .u64 (txtS 14695981039346656037 ((natsOf s).take k) : Nat)) (fun _ _ vi => n - (intOf vi).toNat)
  case atStart => exact ⟨0, by omega, rfl, rfl⟩
  case round =>
    obtain ⟨k, hk, rfl, rfl⟩ := hrel
    have c1 := txtS_lt ((natsOf s).take k) 14695981039346656037 (by decide)
    obtain ⟨c, ec⟩ : ∃ c, txtS 14695981039346656037 ((natsOf s).take k) = c := ⟨_, rfl⟩
    by_cases hlt : k < n
    · obtain ⟨ad, had, hbl, hcell⟩ := HR.out.byteD hlt
      injection had with had
      subst had
      have h5 : (⟨w.heap.size, 0, none⟩ : Addr).add k = ⟨w.heap.size, k, none⟩ := by unfold Addr.add; split <;> simp_all
      rw [h5] at hcell
      clear h5
      have e1 := txtS_take 14695981039346656037 (natsOf s) k (by omega)
      have x1 := natsOf_lt s k
      rw [ec] at c1 e1 ⊢
      obtain ⟨x, ex⟩ : ∃ x, (natsOf s).getD k 0 = x := ⟨_, rfl⟩
      rw [ex] at e1 x1 hcell
      obtain ⟨d, q1, q2⟩ := txt_eqs c x c1 x1
      obtain ⟨y, ey⟩ : ∃ y, txS c x = y := ⟨_, rfl⟩
      rw [ey] at q2 e1
      have E1 := Lib.hid e1
      clear e1 ec ex ey
      go_wp2
      exact ⟨⟨k + 1, by omega, by go_num, by rw [E1.out]⟩, by simp [intOf]; omega⟩
    · obtain rfl : k = n := by omega
      rw [List.take_of_length_le (by omega)] at c1 ec ⊢
      have EC := Lib.hid ec
      rw [ec] at c1 ⊢
      clear ec
      go_wp2_with fail
      refine (mix_any c _ c1).mono ?_
      rintro e w' ⟨rfl, rfl⟩
      go_wp2
      go_ret
      exact ⟨by unfold textN; rw [EC.out]; rfl, HB.out⟩
end Go.Proofs.Ytmdffmajnbokeaa
