/-
  The walks of the reference's puts, of Word (both), and of Copy and Same.
-/
import Derived.Test.YthgiafjiemiifaaOctW3
namespace Go.Proofs.Ythgiafjiemiifaa
open Go.RowKit OctMath
set_option linter.unusedVariables false
set_option maxRecDepth 100000 in
set_option maxHeartbeats 400000 in
theorem copied_any (A : Option Addr) (cap n : Nat) (xs : List Value) (w : World) (hr : Reads w w.heap.size 1 A n xs) (h1 : ∀ u ∈ xs, u.oneCell' = true) (hm : n ≤ 140737488351232) :
    Calls Try.prog 99 #[.slice A n cap] w (RetS 5 xs w) := by
  have hn : xs.length = n := by simpa using hr.1
  go_enter Try.func99, Try.ntmps99
  go_wp2_with (at_builtin
               refine wpl_append rfl (.tmp 3) (.tmp 4) _ rfl w w.heap.size 5 _ 1 1 Try.underlying22 Try.infoU8 rfl (by decide) (.slice (some ⟨w.heap.size, 0, none⟩) 0 0) 0 [] rfl ?own (w.heap.size + 1) A n cap xs rfl ?rd h1 (by omega) (by decide) ?bel ?base ?_
               case own => exact World.ownsRow_lit _ #[] 0 (Nat.le_refl _) (by unfold maxLen; omega) rfl
               case rd => exact (hr.alloc (Nat.le_refl _) _).more (by simp)
               case bel => exact (Below.refl _ _).alloc (Nat.le_refl _) _
               case base => simp
               intro v1 w1 hh)
  go_ret
  refine ⟨v1, rfl, ?_, hh.out.2.1⟩
  have h := hh.out.1
  rw [hn]
  simpa using h
set_option maxRecDepth 100000 in
set_option maxHeartbeats 400000 in
theorem same_any (A B : Option Addr) (cap cap' n m : Nat) (xs ys : List Nat) (w : World) (hx : Byt xs) (hy : Byt ys) (hr : Reads w w.heap.size 1 A n (xs.map bv)) (hr' : Reads w w.heap.size 1 B m (ys.map bv)) :
    Calls Try.prog 7 #[.slice A n cap, .slice B m cap'] w fun e w' => e = .returned (.bool (decide (xs = ys))) ∧ w = w' := by
  have h1 := run_conv_bytes (P := Try.prog) (src := 22) (dst := 9) (cap := cap) Try.underlying22 Try.underlying5 Try.underlying9 hr
  have h2 := run_conv_bytes (P := Try.prog) (src := 22) (dst := 9) (cap := cap') Try.underlying22 Try.underlying5 Try.underlying9 hr'
  have h3 := strOf_beq hx hy
  go_enter Try.func7, Try.ntmps7
  go_wp2
  go_ret
  exact ⟨rfl, rfl⟩
def RNum (w : World) (xs : List Value) (n m : Nat) (v : Value) (wr : World) : Prop :=
  ∃ pre : List Nat, putN n = pre ++ putN m ∧ wr.ownsRow w.heap.size 5 1 v (xs ++ pre.map bv).length (xs ++ pre.map bv) ∧ Below w.heap.size w wr
theorem and127 (m : Nat) (h : m < 18446744073709551616) : bits .and .u64 (m : Int) 127 = ((m % 128 : Nat) : Int) := by
  have h1 := u64_and_nat m 127 h (by omega)
  rw [show m &&& 127 = m % 128 from Nat.and_two_pow_sub_one_eq_mod m 7] at h1
  exact h1
theorem or128' (m : Nat) : bits .or .u8 ((m : Int) % 128) 128 = ((m % 128 + 128 : Nat) : Int) := by
  have h := u8_or_nat (m % 128) 128 (by omega) (by omega)
  have h2 := List.all_eq_true.1 or128_ck (m % 128) (List.mem_range.2 (by omega))
  rw [Nat.eq_of_beq_eq_true h2, show m % 128 % 128 = m % 128 from by omega] at h
  exact h
set_option maxRecDepth 100000 in
set_option maxHeartbeats 1000000 in
theorem rputnum_any (A : Option Addr) (cap l n : Nat) (xs : List Value) (w : World) (hr : Reads w w.heap.size 1 A l xs) (h1 : ∀ u ∈ xs, u.oneCell' = true) (hn : n < 18446744073709551616) (hm : l ≤ 140737488351232) :
    Calls Try.prog 92 #[.slice A l cap, .int .u64 n] w (RetS 5 (xs ++ (putN n).map bv) w) := by
  have HR := Lib.hid hr
  have hl : xs.length = l := by simpa using hr.1
  clear hr
  have h10 := putN_len10 hn
  go_enter Try.func92, Try.ntmps92
  go_wp2_with fail
  refine (copied_any A cap l xs _ HR.out h1 hm).mono ?_
  rintro e w1 ⟨v, rfl, ho, hb⟩
  have HO := Lib.hid ho
  clear ho
  go_wp2_with fail
  go_loopw [1, 5] (fun vn vv wr => ∃ m : Nat, m ≤ n ∧ vn = .int .u64 m ∧ RNum w xs n m vv wr) (fun vn _ _ => (intOf vn).toNat)
  case atStart => exact ⟨n, Nat.le_refl _, rfl, [], rfl, by simpa using HO.out, hb⟩
  case round =>
    obtain ⟨m, hmn, rfl, pre, hpn, hO, hB⟩ := hrel
    clear hb HO HR
    have HO := Lib.hid hO
    clear hO
    have hlen : pre.length + (putN m).length ≤ 10 := by rw [hpn, List.length_append] at h10; exact h10
    have hpos := putN_pos m
    have hlx : (xs ++ pre.map bv).length ≤ l + 10 := by rw [List.length_append, List.length_map, hl]; omega
    have HP := Lib.hid hpn
    clear hpn h10
    by_cases hb : m < 128
    · have hs := Lib.hid (putN_small hb)
      have hb2 : (m : Int) % 256 = m := by omega
      go_wp2_with (at_builtin
                   refine wpl_append rfl (.tmp 19) (.tmp 22) _ rfl w w.heap.size 5 _ 1 1 Try.underlying22 Try.infoU8 rfl (by decide) u5 (xs ++ pre.map bv).length (xs ++ pre.map bv) rfl ?own (wr.heap.size + 1) (some ⟨wr.heap.size, 0, none⟩) 1 1 [bv m] rfl ?rd (bv_one [m]) ?byt (by decide) ?bel ?base ?_
                   case own => exact HO.out.alloc _
                   case rd => exact Reads.lit1 wr 5 (bv m)
                   case byt => omega
                   case bel => exact hB.alloc hB.size _
                   case base => (simp; exact Nat.le_succ_of_le hB.size)
                   intro v2 w2 hh)
      go_ret
      refine ⟨v2, rfl, ?_, hh.out.2.1⟩
      have h := hh.out.1
      rw [HP.out, hs.out, List.map_append, ← List.append_assoc, List.length_append]
      exact h
    · have hs := Lib.hid (putN_big hb)
      have x1 := and127 m (by omega)
      have x2 := or128' m
      have x3 : ((m % 128 : Nat) : Int) = (m : Int) % 128 := by omega
      have x4 : (m : Int) % 128 % 256 = (m : Int) % 128 := by omega
      rw [x3] at x1
      obtain ⟨d, ed⟩ : ∃ d, m % 128 + 128 = d := ⟨_, rfl⟩
      rw [ed] at x2
      have ED := Lib.hid ed
      clear ed x3
      go_wp2_with (at_builtin
                   refine wpl_append rfl (.tmp 10) (.tmp 15) _ rfl w w.heap.size 5 _ 1 1 Try.underlying22 Try.infoU8 rfl (by decide) u5 (xs ++ pre.map bv).length (xs ++ pre.map bv) rfl ?own (wr.heap.size + 1) (some ⟨wr.heap.size, 0, none⟩) 1 1 [bv d] rfl ?rd (bv_one [d]) ?byt (by decide) ?bel ?base ?_
                   case own => exact HO.out.alloc _
                   case rd => exact Reads.lit1 wr 5 (bv d)
                   case byt => omega
                   case bel => exact hB.alloc hB.size _
                   case base => (simp; exact Nat.le_succ_of_le hB.size)
                   intro v2 w2 hh)
      refine ⟨⟨m / 128, by omega, by simp, pre ++ [d], ?_, ?_, hh.out.2.1⟩, by simp [intOf]; omega⟩
      · rw [HP.out, hs.out, ED.out]; simp
      · have h := hh.out.1
        rw [List.map_append, ← List.append_assoc, List.length_append]
        exact h
theorem putN_len1 (n : Nat) (h : n < 18446744073709551616) : ((putN n).map bv).length ≤ 10 := by rw [List.length_map]; exact putN_len10 h
set_option maxRecDepth 100000 in
set_option maxHeartbeats 1000000 in
theorem rputbytes_any (A B : Option Addr) (cap cap' l m : Nat) (xs ys : List Value) (w : World) (hr : Reads w w.heap.size 1 A l xs) (h1 : ∀ u ∈ xs, u.oneCell' = true) (hr' : Reads w w.heap.size 1 B m ys) (h2 : ∀ u ∈ ys, u.oneCell' = true) (hm : l + m + 10 ≤ 140737488351232) :
    Calls Try.prog 101 #[.slice A l cap, .slice B m cap'] w (RetS 5 (xs ++ (putN m).map bv ++ ys) w) := by
  have HR := Lib.hid hr
  have HR' := Lib.hid hr'
  have hl : xs.length = l := by simpa using hr.1
  have hl' : ys.length = m := by simpa using hr'.1
  have h10 := putN_len10 (n := m) (by omega)
  clear hr hr'
  go_enter Try.func101, Try.ntmps101
  go_wp2_with fail
  refine (rputnum_any A cap l m xs _ HR.out h1 (by omega) (by omega)).mono ?_
  rintro e w1 ⟨v, rfl, ho, hb⟩
  have HO := Lib.hid ho
  clear ho
  go_wp2_with (at_builtin
               refine wpl_append rfl (.tmp 9) (.tmp 10) _ rfl w w.heap.size 5 _ 1 1 Try.underlying22 Try.infoU8 rfl (by decide) v (xs ++ (putN m).map bv).length (xs ++ (putN m).map bv) rfl ?own w.heap.size B m cap' ys rfl ?rd h2 ?byt (by decide) ?bel ?base ?_
               case own => exact HO.out
               case rd => exact HR'.out.below hb
               case byt => rw [List.length_append, List.length_map]; omega
               case bel => exact hb
               case base => exact hb.size
               intro v2 w2 hh)
  go_ret
  refine ⟨v2, rfl, ?_, hh.out.2.1⟩
  have h := hh.out.1
  rw [show (xs ++ (putN m).map bv ++ ys).length = (xs ++ (putN m).map bv).length + m from by rw [List.length_append, hl']]
  exact h
set_option maxRecDepth 100000 in
set_option maxHeartbeats 1000000 in
theorem rputflag_any (f : Bool) (A : Option Addr) (cap l : Nat) (xs : List Value) (w : World) (hr : Reads w w.heap.size 1 A l xs) (h1 : ∀ u ∈ xs, u.oneCell' = true) (hm : l ≤ 140737488351232) :
    Calls Try.prog 97 #[.slice A l cap, .bool f] w (RetS 5 (xs ++ [bv f.toNat]) w) := by
  have HR := Lib.hid hr
  have hl : xs.length = l := by simpa using hr.1
  clear hr
  rcases f with _ | _
  · go_enter Try.func97, Try.ntmps97
    go_wp2_with fail
    refine (copied_any A cap l xs _ HR.out h1 hm).mono ?_
    rintro e w1 ⟨v, rfl, ho, hb⟩
    have HO := Lib.hid ho
    clear ho
    go_wp2_with (at_builtin
                 refine wpl_append rfl (.tmp 11) (.tmp 12) _ rfl w w.heap.size 5 _ 1 1 Try.underlying22 Try.infoU8 rfl (by decide) v xs.length xs rfl ?own (w1.heap.size + 1) (some ⟨w1.heap.size, 0, none⟩) 1 1 [bv 0] rfl ?rd (bv_one [0]) ?byt (by decide) ?bel ?base ?_
                 case own => exact HO.out.alloc _
                 case rd => exact Reads.lit1 w1 5 (bv 0)
                 case byt => omega
                 case bel => exact hb.alloc hb.size _
                 case base => (simp; exact Nat.le_succ_of_le hb.size)
                 intro v2 w2 hh)
    go_ret
    exact ⟨v2, rfl, by have h := hh.out.1; rw [List.length_append]; exact h, hh.out.2.1⟩
  · go_enter Try.func97, Try.ntmps97
    go_wp2_with fail
    refine (copied_any A cap l xs _ HR.out h1 hm).mono ?_
    rintro e w1 ⟨v, rfl, ho, hb⟩
    have HO := Lib.hid ho
    clear ho
    go_wp2_with (at_builtin
                 refine wpl_append rfl (.tmp 7) (.tmp 8) _ rfl w w.heap.size 5 _ 1 1 Try.underlying22 Try.infoU8 rfl (by decide) v xs.length xs rfl ?own (w1.heap.size + 1) (some ⟨w1.heap.size, 0, none⟩) 1 1 [bv 1] rfl ?rd (bv_one [1]) ?byt (by decide) ?bel ?base ?_
                 case own => exact HO.out.alloc _
                 case rd => exact Reads.lit1 w1 5 (bv 1)
                 case byt => omega
                 case bel => exact hb.alloc hb.size _
                 case base => (simp; exact Nat.le_succ_of_le hb.size)
                 intro v2 w2 hh)
    go_ret
    exact ⟨v2, rfl, by have h := hh.out.1; rw [List.length_append]; exact h, hh.out.2.1⟩
set_option maxRecDepth 100000 in
set_option maxHeartbeats 1000000 in
theorem rputint_any (A : Option Addr) (cap l : Nat) (n : Int) (xs : List Value) (w : World) (hr : Reads w w.heap.size 1 A l xs) (h1 : ∀ u ∈ xs, u.oneCell' = true) (n1 : -9223372036854775808 ≤ n) (n2 : n ≤ 9223372036854775807) (hm : l ≤ 140737488351232) :
    Calls Try.prog 89 #[.slice A l cap, .int .i64 n] w (RetS 5 (xs ++ (putN (zz n)).map bv) w) := by
  have HR := Lib.hid hr
  clear hr
  have hz := zz_lt n1 n2
  by_cases hs : 0 ≤ n
  · have e := zz_pos hs n2
    have E := Lib.hid e
    clear e
    go_enter Try.func89, Try.ntmps89
    go_wp2_with fail
    rw [← E.out]
    refine (rputnum_any A cap l (zz n) xs _ HR.out h1 hz hm).mono ?_
    rintro e w2 h
    obtain ⟨v, rfl, h3⟩ := h
    go_wp2
    go_ret
    exact ⟨v, rfl, h3⟩
  · have e : ((zz n : Nat) : Int) = 2 * (-1 - n) + 1 := by have := zz_neg (n := n) (by omega); omega
    have E := Lib.hid e
    have n3 : 0 ≤ -1 - n := by omega
    have n4 : -1 - n ≤ 9223372036854775807 := by omega
    clear e
    go_enter Try.func89, Try.ntmps89
    go_wp2_with fail
    rw [← E.out]
    refine (rputnum_any A cap l (zz n) xs _ HR.out h1 hz hm).mono ?_
    rintro e w2 h
    obtain ⟨v, rfl, h3⟩ := h
    go_wp2
    go_ret
    exact ⟨v, rfl, h3⟩
end Go.Proofs.Ythgiafjiemiifaa
