/-
  The walks of the reference's puts, of Word (both), and of Copy and Same; The walks that read: Number, Int, Bytes; The walks that read, for every place: Number, Int, Bytes; The walks of Word and Flag; contracts that speak of rows of bytes alone; number; word. (joined out of OctW4, OctW5, OctW6, OctW8, WirF1 by shake.py)
-/
import Derived.Lib.SlBytesConst
import Derived.Test.YtijdbdenmcjmmaaGreatDoorNen02
import Derived.Test.YtijdbdenmcjmmaaGreatDoorNen01
section
namespace Go.Proofs.YtijdbdenmcjmmaaGreatDoor
open Go.RowKit OctMath
set_option linter.unusedVariables false
set_option maxRecDepth 100000 in
set_option maxHeartbeats 400000 in
theorem copied_any (A : Option Addr) (cap n : Nat) (xs : List Value) (w : World) (hr : Reads w w.heap.size 1 A n xs) (h1 : ∀ u ∈ xs, u.oneCell' = true) (hm : n ≤ 140737488351232) :
    Calls Tryz.prog 108 #[.slice A n cap] w (RetS 5 xs w) := by
  have hn : xs.length = n := by simpa using hr.1
  go_enter Tryz.func108, Tryz.ntmps108
  go_wp2_with (at_builtin
               refine wpl_append rfl (.tmp 3) (.tmp 4) _ rfl w w.heap.size 5 _ 1 1 Tryz.underlying33 Tryz.infoU8 rfl (by decide) (.slice (some ⟨w.heap.size, 0, none⟩) 0 0) 0 [] rfl ?own (w.heap.size + 1) A n cap xs rfl ?rd h1 (by omega) (by decide) ?bel ?base ?_
               case own => exact World.ownsRow_lit _ #[] 0 (Nat.le_refl _) (by unfold maxLen; omega) rfl
               case rd => exact (hr.alloc (Nat.le_refl _) _).more (by simp)
               case bel => exact (Below.refl _ _).alloc (Nat.le_refl _) _
               case base => simp
               intro v1 w1 hh)
  go_ret
  refine ⟨v1, rfl, ?_, hh.out.2.1⟩
  have h := hh.out.1
  rw [hn]
  simpa using h
def RNum (w : World) (xs : List Value) (n m : Nat) (v : Value) (wr : World) : Prop :=
  ∃ pre : List Nat, putN n = pre ++ putN m ∧ wr.ownsRow w.heap.size 5 1 v (xs ++ pre.map bv).length (xs ++ pre.map bv) ∧ Below w.heap.size w wr
theorem and127 (m : Nat) (h : m < 18446744073709551616) : bits .and .u64 (m : Int) 127 = ((m % 128 : Nat) : Int) := by
  have h1 := u64_and_nat m 127 h (by omega)
  rw [show m &&& 127 = m % 128 from Nat.and_two_pow_sub_one_eq_mod m 7] at h1
  exact h1
theorem or128' (m : Nat) : bits .or .u8 ((m : Int) % 128) 128 = ((m % 128 + 128 : Nat) : Int) := by
  have h := u8_or_nat (m % 128) 128 (by omega) (by omega)
  have h2 := List.all_eq_true.1 or128_ck (m % 128) (List.mem_range.2 (by omega))
  rw [Nat.eq_of_beq_eq_true h2, show m % 128 % 128 = m % 128 from by omega] at h
  exact h
set_option maxRecDepth 100000 in
set_option maxHeartbeats 1000000 in
theorem rputnum_any (A : Option Addr) (cap l n : Nat) (xs : List Value) (w : World) (hr : Reads w w.heap.size 1 A l xs) (h1 : ∀ u ∈ xs, u.oneCell' = true) (hn : n < 18446744073709551616) (hm : l ≤ 140737488351232) :
    Calls Tryz.prog 88 #[.slice A l cap, .int .u64 n] w (RetS 5 (xs ++ (putN n).map bv) w) := by
  have HR := Lh hr
  have hl : xs.length = l := by simpa using hr.1
  clear hr
  have h10 := putN_len10 hn
  go_enter Tryz.func88, Tryz.ntmps88
  go_wp2_with fail
  refine (copied_any A cap l xs _ HR.out h1 hm).mono ?_
  rintro e w1 ⟨v, rfl, ho, hb⟩
  have HO := Lh ho
  clear ho
  go_wp2_with fail
  go_loopw [1, 5] (fun vn vv wr => ∃ m : Nat, m ≤ n ∧ vn = .int .u64 m ∧ RNum w xs n m vv wr) (fun vn _ _ => (intOf vn).toNat)
  case atStart => exact ⟨n, Nat.le_refl _, rfl, [], rfl, by simpa using HO.out, hb⟩
  case round =>
    obtain ⟨m, hmn, rfl, pre, hpn, hO, hB⟩ := hrel
    clear hb HO HR
    have HO := Lh hO
    clear hO
    have hlen : pre.length + (putN m).length ≤ 10 := by rw [hpn, List.length_append] at h10; exact h10
    have hpos := putN_pos m
    have hlx : (xs ++ pre.map bv).length ≤ l + 10 := by rw [List.length_append, List.length_map, hl]; omega
    have HP := Lh hpn
    clear hpn h10
    by_cases hb : m < 128
    · have hs := Lh (putN_small hb)
      have hb2 : (m : Int) % 256 = m := by omega
      go_wp2_with (at_builtin
                   refine wpl_append rfl (.tmp 19) (.tmp 22) _ rfl w w.heap.size 5 _ 1 1 Tryz.underlying33 Tryz.infoU8 rfl (by decide) u5 (xs ++ pre.map bv).length (xs ++ pre.map bv) rfl ?own (wr.heap.size + 1) (some ⟨wr.heap.size, 0, none⟩) 1 1 [bv m] rfl ?rd (bv_one [m]) ?byt (by decide) ?bel ?base ?_
                   case own => exact HO.out.alloc _
                   case rd => exact Reads.lit1 wr 5 (bv m)
                   case byt => omega
                   case bel => exact hB.alloc hB.size _
                   case base => (simp; exact Nat.le_succ_of_le hB.size)
                   intro v2 w2 hh)
      go_ret
      refine ⟨v2, rfl, ?_, hh.out.2.1⟩
      have h := hh.out.1
      rw [HP.out, hs.out, List.map_append, ← List.append_assoc, List.length_append]
      exact h
    · have hs := Lh (putN_big hb)
      have x1 := and127 m (by omega)
      have x2 := or128' m
      have x3 : ((m % 128 : Nat) : Int) = (m : Int) % 128 := by omega
      have x4 : (m : Int) % 128 % 256 = (m : Int) % 128 := by omega
      rw [x3] at x1
      obtain ⟨d, ed⟩ : ∃ d, m % 128 + 128 = d := ⟨_, rfl⟩
      rw [ed] at x2
      have ED := Lh ed
      clear ed x3
      go_wp2_with (at_builtin
                   refine wpl_append rfl (.tmp 10) (.tmp 15) _ rfl w w.heap.size 5 _ 1 1 Tryz.underlying33 Tryz.infoU8 rfl (by decide) u5 (xs ++ pre.map bv).length (xs ++ pre.map bv) rfl ?own (wr.heap.size + 1) (some ⟨wr.heap.size, 0, none⟩) 1 1 [bv d] rfl ?rd (bv_one [d]) ?byt (by decide) ?bel ?base ?_
                   case own => exact HO.out.alloc _
                   case rd => exact Reads.lit1 wr 5 (bv d)
                   case byt => omega
                   case bel => exact hB.alloc hB.size _
                   case base => (simp; exact Nat.le_succ_of_le hB.size)
                   intro v2 w2 hh)
      refine ⟨⟨m / 128, by omega, by simp, pre ++ [d], ?_, ?_, hh.out.2.1⟩, by simp [intOf]; omega⟩
      · rw [HP.out, hs.out, ED.out]; simp
      · have h := hh.out.1
        rw [List.map_append, ← List.append_assoc, List.length_append]
        exact h
theorem putN_len1 (n : Nat) (h : n < 18446744073709551616) : ((putN n).map bv).length ≤ 10 := by rw [List.length_map]; exact putN_len10 h
set_option maxRecDepth 100000 in
set_option maxHeartbeats 1000000 in
theorem rputbytes_any (A B : Option Addr) (cap cap' l m : Nat) (xs ys : List Value) (w : World) (hr : Reads w w.heap.size 1 A l xs) (h1 : ∀ u ∈ xs, u.oneCell' = true) (hr' : Reads w w.heap.size 1 B m ys) (h2 : ∀ u ∈ ys, u.oneCell' = true) (hm : l + m + 10 ≤ 140737488351232) :
    Calls Tryz.prog 96 #[.slice A l cap, .slice B m cap'] w (RetS 5 (xs ++ (putN m).map bv ++ ys) w) := by
  have HR := Lh hr
  have HR' := Lh hr'
  have hl : xs.length = l := by simpa using hr.1
  have hl' : ys.length = m := by simpa using hr'.1
  have h10 := putN_len10 (n := m) (by omega)
  clear hr hr'
  go_enter Tryz.func96, Tryz.ntmps96
  go_wp2_with fail
  refine (rputnum_any A cap l m xs _ HR.out h1 (by omega) (by omega)).mono ?_
  rintro e w1 ⟨v, rfl, ho, hb⟩
  have HO := Lh ho
  clear ho
  go_wp2_with (at_builtin
               refine wpl_append rfl (.tmp 9) (.tmp 10) _ rfl w w.heap.size 5 _ 1 1 Tryz.underlying33 Tryz.infoU8 rfl (by decide) v (xs ++ (putN m).map bv).length (xs ++ (putN m).map bv) rfl ?own w.heap.size B m cap' ys rfl ?rd h2 ?byt (by decide) ?bel ?base ?_
               case own => exact HO.out
               case rd => exact HR'.out.below hb
               case byt => rw [List.length_append, List.length_map]; omega
               case bel => exact hb
               case base => exact hb.size
               intro v2 w2 hh)
  go_ret
  refine ⟨v2, rfl, ?_, hh.out.2.1⟩
  have h := hh.out.1
  rw [show (xs ++ (putN m).map bv ++ ys).length = (xs ++ (putN m).map bv).length + m from by rw [List.length_append, hl']]
  exact h
set_option maxRecDepth 100000 in
set_option maxHeartbeats 1000000 in
theorem rputflag_any (f : Bool) (A : Option Addr) (cap l : Nat) (xs : List Value) (w : World) (hr : Reads w w.heap.size 1 A l xs) (h1 : ∀ u ∈ xs, u.oneCell' = true) (hm : l ≤ 140737488351232) :
    Calls Tryz.prog 90 #[.slice A l cap, .bool f] w (RetS 5 (xs ++ [bv f.toNat]) w) := by
  have HR := Lh hr
  have hl : xs.length = l := by simpa using hr.1
  clear hr
  rcases f with _ | _
  · go_enter Tryz.func90, Tryz.ntmps90
    go_wp2_with fail
    refine (copied_any A cap l xs _ HR.out h1 hm).mono ?_
    rintro e w1 ⟨v, rfl, ho, hb⟩
    have HO := Lh ho
    clear ho
    go_wp2_with (at_builtin
                 refine wpl_append rfl (.tmp 11) (.tmp 12) _ rfl w w.heap.size 5 _ 1 1 Tryz.underlying33 Tryz.infoU8 rfl (by decide) v xs.length xs rfl ?own (w1.heap.size + 1) (some ⟨w1.heap.size, 0, none⟩) 1 1 [bv 0] rfl ?rd (bv_one [0]) ?byt (by decide) ?bel ?base ?_
                 case own => exact HO.out.alloc _
                 case rd => exact Reads.lit1 w1 5 (bv 0)
                 case byt => omega
                 case bel => exact hb.alloc hb.size _
                 case base => (simp; exact Nat.le_succ_of_le hb.size)
                 intro v2 w2 hh)
    go_ret
    exact ⟨v2, rfl, by have h := hh.out.1; rw [List.length_append]; exact h, hh.out.2.1⟩
  · go_enter Tryz.func90, Tryz.ntmps90
    go_wp2_with fail
    refine (copied_any A cap l xs _ HR.out h1 hm).mono ?_
    rintro e w1 ⟨v, rfl, ho, hb⟩
    have HO := Lh ho
    clear ho
    go_wp2_with (at_builtin
                 refine wpl_append rfl (.tmp 7) (.tmp 8) _ rfl w w.heap.size 5 _ 1 1 Tryz.underlying33 Tryz.infoU8 rfl (by decide) v xs.length xs rfl ?own (w1.heap.size + 1) (some ⟨w1.heap.size, 0, none⟩) 1 1 [bv 1] rfl ?rd (bv_one [1]) ?byt (by decide) ?bel ?base ?_
                 case own => exact HO.out.alloc _
                 case rd => exact Reads.lit1 w1 5 (bv 1)
                 case byt => omega
                 case bel => exact hb.alloc hb.size _
                 case base => (simp; exact Nat.le_succ_of_le hb.size)
                 intro v2 w2 hh)
    go_ret
    exact ⟨v2, rfl, by have h := hh.out.1; rw [List.length_append]; exact h, hh.out.2.1⟩
set_option maxRecDepth 100000 in
set_option maxHeartbeats 1000000 in
theorem rputint_any (A : Option Addr) (cap l : Nat) (n : Int) (xs : List Value) (w : World) (hr : Reads w w.heap.size 1 A l xs) (h1 : ∀ u ∈ xs, u.oneCell' = true) (n1 : -9223372036854775808 ≤ n) (n2 : n ≤ 9223372036854775807) (hm : l ≤ 140737488351232) :
    Calls Tryz.prog 86 #[.slice A l cap, .int .i64 n] w (RetS 5 (xs ++ (putN (zz n)).map bv) w) := by
  have HR := Lh hr
  clear hr
  have hz := zz_lt n1 n2
  by_cases hs : 0 ≤ n
  · have e := zz_pos hs n2
    have E := Lh e
    clear e
    go_enter Tryz.func86, Tryz.ntmps86
    go_wp2_with fail
    rw [← E.out]
    refine (rputnum_any A cap l (zz n) xs _ HR.out h1 hz hm).mono ?_
    rintro e w2 h
    obtain ⟨v, rfl, h3⟩ := h
    go_wp2
    go_ret
    exact ⟨v, rfl, h3⟩
  · have e : ((zz n : Nat) : Int) = 2 * (-1 - n) + 1 := by have := zz_neg (n := n) (by omega); omega
    have E := Lh e
    have n3 : 0 ≤ -1 - n := by omega
    have n4 : -1 - n ≤ 9223372036854775807 := by omega
    clear e
    go_enter Tryz.func86, Tryz.ntmps86
    go_wp2_with fail
    rw [← E.out]
    refine (rputnum_any A cap l (zz n) xs _ HR.out h1 hz hm).mono ?_
    rintro e w2 h
    obtain ⟨v, rfl, h3⟩ := h
    go_wp2
    go_ret
    exact ⟨v, rfl, h3⟩
end Go.Proofs.YtijdbdenmcjmmaaGreatDoor
end
section
namespace Go.Proofs.YtijdbdenmcjmmaaGreatDoor
open Go.RowKit OctMath
set_option linter.unusedVariables false
theorem pow128 (i : Nat) : (2 : Nat) ^ (7 * i) = 128 ^ i := by rw [Nat.pow_mul]
theorem or_add (acc d i : Nat) (h : acc < 128 ^ i) : acc ||| d * 128 ^ i = acc + d * 128 ^ i := by
  rw [← pow128] at h ⊢
  have := Nat.two_pow_add_eq_or_of_lt h d
  rw [Nat.or_comm, Nat.mul_comm d, ← this, Nat.add_comm]
theorem num_step (i acc d : Nat) (hi : i ≤ 9) (hacc : acc < 128 ^ i) (hd : d < 128) (h9 : i = 9 → d ≤ 1) :
    IntKind.u64.wrap ((d : Int) * 2 ^ (7 * i)) = ((d * 128 ^ i : Nat) : Int) ∧ bits .or .u64 (acc : Int) ((d * 128 ^ i : Nat) : Int) = ((acc + d * 128 ^ i : Nat) : Int) ∧ acc + d * 128 ^ i < 128 ^ (i + 1) ∧ d * 128 ^ i < 18446744073709551616 := by
  have hb : acc + d * 128 ^ i < 18446744073709551616 := by
    rcases Nat.lt_or_ge i 9 with h | h
    · have h1 : 128 ^ i ≤ 128 ^ 8 := Nat.pow_le_pow_right (by omega) (by omega)
      have h2 : d * 128 ^ i ≤ 127 * 128 ^ 8 := Nat.mul_le_mul (by omega) h1
      have h3 : (127 : Nat) * 128 ^ 8 = 9151314442816847872 := by decide
      have h4 : (128 : Nat) ^ 8 = 72057594037927936 := by decide
      omega
    · obtain rfl : i = 9 := by omega
      have h1 : d ≤ 1 := h9 rfl
      have h4 : (128 : Nat) ^ 9 = 9223372036854775808 := by decide
      have h2 : d * 128 ^ 9 ≤ 1 * 128 ^ 9 := Nat.mul_le_mul_right _ h1
      omega
  have hs : d * 128 ^ i < 18446744073709551616 := by omega
  have e1 : (d : Int) * 2 ^ (7 * i) = ((d * 128 ^ i : Nat) : Int) := by rw [← pow128, Int.natCast_mul, Int.natCast_pow]; rfl
  refine ⟨?_, ?_, ?_, hs⟩
  · rw [e1]; exact IntWalk.u64_in _ (by omega)
  · rw [u64_or_nat acc (d * 128 ^ i) (by omega) hs, or_add acc d i hacc]
  · rw [Nat.pow_succ]
    have : d * 128 ^ i ≤ 127 * 128 ^ i := Nat.mul_le_mul_right _ (by omega)
    omega
theorem and127_8 (c : Nat) (h : c < 256) : bits .and .u8 (c : Int) 127 = ((c % 128 : Nat) : Int) := by
  have h1 := u8_and_nat c 127 h (by omega)
  rw [show c &&& 127 = c % 128 from Nat.and_two_pow_sub_one_eq_mod c 7] at h1
  exact h1
theorem ret3_nat' {n : Nat} {p p' : Int} {m : Int} {e : Int} (h1 : m = (n : Int)) (h2 : p = p') :
    Ending.returned (.tuple #[.int .u64 m, .int .i64 p, .int .i64 e]) = .returned (.tuple #[.int .u64 (n : Int), .int .i64 p', .int .i64 e]) := by rw [h1, h2]
set_option maxRecDepth 100000 in
set_option maxHeartbeats 1000000 in
theorem number_out (A : Option Addr) (cap n : Nat) (at_ : Int) (w : World) (h : at_ < 0 ∨ (n : Int) < at_) (hm : n ≤ maxLen) :
    Calls Tryz.prog 20 #[.slice A n cap, .int .i64 at_] w fun e w' => e = .returned (.tuple #[.int .u64 0, .int .i64 0, .int .i64 2]) ∧ w = w' := by
  unfold maxLen at hm
  by_cases h0 : at_ < 0
  · go_enter Tryz.func20, Tryz.ntmps20
    go_wp2
    go_ret3
    exact ⟨rfl, rfl⟩
  · have h1 : (n : Int) < at_ := by omega
    clear h
    go_enter Tryz.func20, Tryz.ntmps20
    go_wp2
    go_ret3
    exact ⟨rfl, rfl⟩
set_option maxRecDepth 100000 in
set_option maxHeartbeats 1000000 in
theorem number_in (A : Option Addr) (cap n k : Nat) (bs : List Nat) (w : World) (hb : Byt bs) (hn : bs.length = n) (hr : Reads w w.heap.size 1 A n (bs.map bv)) (hk : k ≤ n) (hc : n ≤ cap) (hm : cap ≤ maxLen) :
    Calls Tryz.prog 20 #[.slice A n cap, .int .i64 k] w fun e w' => e = .returned (.tuple #[.int .u64 (rdN bs k).1, .int .i64 (rdN bs k).2.1, .int .i64 (rdN bs k).2.2]) ∧ w = w' := by
  unfold maxLen at hm
  obtain ⟨i0, hi, h2, h3, h4⟩ := info_parts Tryz.infoU8
  have hsl := slice_from Tryz.underlying33 hi h3 A n cap k hk hc
  have hcut := hr.cut hk hc
  rw [← List.map_drop, Nat.mul_one] at hcut
  rw [Nat.mul_one] at hsl
  obtain ⟨A2, hA2⟩ : ∃ A2, (if cap = k then A else A.map (·.add k)) = A2 := ⟨_, rfl⟩
  rw [hA2] at hsl hcut
  have hds : Byt (bs.drop k) := hb.drop k
  have hdl : (bs.drop k).length = n - k := by simp [hn]
  obtain ⟨ds, hdd⟩ : ∃ ds, bs.drop k = ds := ⟨_, rfl⟩
  have hrd : rdN bs k = (let r := rdF ds 0 0; if r.2.2 = 0 then (r.1, (k : Int) + r.2.1, 0) else (0, 0, r.2.2)) := by
    unfold rdN
    rw [if_neg (by omega), show ((k : Int)).toNat = k from by omega, hdd]
  rw [hdd] at hcut hds hdl
  have RD := Lh hrd
  have hkb : decide ((k : Int) < 0) = false := by simp
  obtain ⟨L, hL⟩ : ∃ L, n - k = L := ⟨_, rfl⟩
  rw [hL] at hsl hdl hcut
  have HR := Lh hcut
  have hLm : L ≤ 9223372036854775807 := by omega
  have hpL : k + L ≤ 9223372036854775807 := by omega
  have hk2 : (k : Int) ≤ n := by omega
  clear hr hcut hrd hA2 hdd hb hn hi h2 h3 h4 hL
  go_enter Tryz.func20, Tryz.ntmps20
  go_wp2
  go_loop [7, 22] (fun vn vi => ∃ i acc : Nat, i ≤ L ∧ i ≤ 9 ∧ acc < 128 ^ i ∧ vi = .int .i64 i ∧ vn = .int .u64 acc ∧ rdF (ds.drop i) i acc = rdF ds 0 0) (fun _ vi => L - (intOf vi).toNat)
  case atStart => exact ⟨0, 0, by omega, by omega, by decide, rfl, rfl, rfl⟩
  case round =>
    obtain ⟨i, acc, hi, hi9, hacc, rfl, rfl, hrel⟩ := hrel
    by_cases hlt : i < L
    · obtain ⟨ad, rfl, hbl, hcell⟩ := HR.out.byteD hlt
      have hcb := hds.getD i
      have hdrop : ds.drop i = ds.getD i 0 :: ds.drop (i + 1) := by
        rw [List.drop_eq_getElem_cons (by omega), List.getD_eq_getElem?_getD, List.getElem?_eq_getElem (by omega)]; rfl
      obtain ⟨c, hc0⟩ : ∃ c, ds.getD i 0 = c := ⟨_, rfl⟩
      rw [hc0] at hcell hcb hdrop
      rw [hdrop, rdF] at hrel
      have H := Lh hrel
      clear hrel hdrop hc0
      by_cases hbad : (i = 9 ∧ 1 < c) ∨ (0 < i ∧ c = 0)
      · have hr := H.out
        rw [if_pos hbad] at hr
        have R1 := Lh hr
        have hres : rdN bs k = (0, 0, 41) := by rw [RD.out, ← R1.out]; rfl
        have HS := Lh hres
        clear hr hres
        by_cases hc0 : c = 0
        · have hi0 : 0 < i := by omega
          have hcz : ((c : Int) == 0) = true := by simpa using hc0
          have hc1 : (c : Int) ≤ 1 := by omega
          clear hbad H
          have HC := Lh hc0
          clear hc0
          rcases hb9 : ((i : Int) == 9) with _ | _
          all_goals
            go_wp2
            go_ret3
            exact ⟨by rw [HS.out]; rfl, rfl⟩
        · have hi9' : i = 9 := by omega
          have hb9 : ((i : Int) == 9) = true := by rw [hi9']; rfl
          have hc1 : 1 < c := by omega
          have HI := Lh hi9'
          clear hbad H hi9'
          go_wp2
          go_ret3
          exact ⟨by rw [HS.out]; rfl, rfl⟩
      · have hr := H.out
        rw [if_neg hbad] at hr
        have a1 := and127_8 c hcb
        have hd : c % 128 < 128 := by omega
        have h91 : i = 9 → c % 128 ≤ 1 := by omega
        have h99 : 128 ≤ c → i < 9 := by omega
        obtain ⟨d, ed⟩ : ∃ d, c % 128 = d := ⟨_, rfl⟩
        rw [ed] at a1 hd h91 hr
        obtain ⟨n1, n2, n3, n4⟩ := num_step i acc d hi9 hacc hd h91
        obtain ⟨s, es⟩ : ∃ s, d * 128 ^ i = s := ⟨_, rfl⟩
        rw [es] at n1 n2 n3 n4 hr
        have HR1 := Lh hr
        have N3 := Lh n3
        have hsum : 0 ≤ (i : Int) + 1 := by omega
        clear hr es ed n3 H h91 hacc
        by_cases hlo : c < 128
        · have hr2 := HR1.out
          rw [if_pos hlo] at hr2
          have hres : rdN bs k = (acc + s, (k : Int) + ((i + 1 : Nat) : Int), 0) := by rw [RD.out, ← hr2]; rfl
          have HS := Lh hres
          have hfin : ∀ x : Nat, ((acc + s : Nat) : Int) = x → True := fun _ _ => trivial
          clear hr2 hres hfin HR1
          by_cases h0 : i = 0
          · have i1 : ((i : Int) == 9) = false := by rw [h0]; rfl
            have i2 : ¬ 0 < i := by omega
            have H0 := Lh h0
            clear h0 hbad
            go_wp2
            go_ret3
            exact ⟨by rw [HS.out]; exact ret3_nat' rfl (by show _ = (k : Int) + ((i + 1 : Nat) : Int); omega), rfl⟩
          · have i2 : 0 < i := by omega
            have hcz : ((c : Int) == 0) = false := by rw [beq_eq_false_iff_ne]; omega
            rcases hb9 : ((i : Int) == 9) with _ | _
            · clear hbad
              go_wp2
              go_ret3
              exact ⟨by rw [HS.out]; exact ret3_nat' rfl (by show _ = (k : Int) + ((i + 1 : Nat) : Int); omega), rfl⟩
            · have hc1 : c ≤ 1 := by
                have : i = 9 := by have := eq_of_beq hb9; omega
                omega
              clear hbad
              go_wp2
              go_ret3
              exact ⟨by rw [HS.out]; exact ret3_nat' rfl (by show _ = (k : Int) + ((i + 1 : Nat) : Int); omega), rfl⟩
        · have hr2 := HR1.out
          rw [if_neg hlo] at hr2
          have HS := Lh hr2
          have hi8 : i < 9 := h99 (by omega)
          have i1 : ((i : Int) == 9) = false := by rw [beq_eq_false_iff_ne]; omega
          have hcz : ((c : Int) == 0) = false := by rw [beq_eq_false_iff_ne]; omega
          clear hr2 HR1 h99 hbad
          by_cases h0 : 0 < i
          · go_wp2
            exact ⟨⟨i + 1, acc + s, by omega, by omega, N3.out, by go_num, rfl, HS.out⟩, by simp [intOf]; omega⟩
          · go_wp2
            exact ⟨⟨i + 1, acc + s, by omega, by omega, N3.out, by go_num, rfl, HS.out⟩, by simp [intOf]; omega⟩
    · obtain rfl : i = L := by omega
      rw [List.drop_of_length_le (by omega), rdF] at hrel
      have hres : rdN bs k = (0, 0, 40) := by rw [RD.out, ← hrel]; rfl
      have HS := Lh hres
      clear hres hrel
      go_wp2
      go_ret3
      exact ⟨by rw [HS.out]; rfl, rfl⟩
end Go.Proofs.YtijdbdenmcjmmaaGreatDoor
end
section
namespace Go.Proofs.YtijdbdenmcjmmaaGreatDoor
open Go.RowKit OctMath
set_option linter.unusedVariables false
theorem number_any (A : Option Addr) (cap n : Nat) (at_ : Int) (bs : List Nat) (w : World) (hb : Byt bs) (hn : bs.length = n) (hr : Reads w w.heap.size 1 A n (bs.map bv)) (hc : n ≤ cap) (hm : cap ≤ maxLen) :
    Calls Tryz.prog 20 #[.slice A n cap, .int .i64 at_] w fun e w' => e = .returned (.tuple #[.int .u64 (rdN bs at_).1, .int .i64 (rdN bs at_).2.1, .int .i64 (rdN bs at_).2.2]) ∧ w = w' := by
  by_cases h : at_ < 0 ∨ (n : Int) < at_
  · have e : rdN bs at_ = (0, 0, 2) := by unfold rdN; rw [hn, if_pos h]
    rw [e]
    exact number_out A cap n at_ w h (by unfold maxLen at *; omega)
  · obtain ⟨k, rfl⟩ := Int.eq_ofNat_of_zero_le (show 0 ≤ at_ by omega)
    exact number_in A cap n k bs w hb hn hr (by omega) hc hm
theorem unz_even (n : Nat) (h : n < 18446744073709551616) (h2 : n % 2 = 0) : bits .xor .i64 ((n : Int) / 2) 0 = unz n := by
  have := xor_i64 (n / 2) 0 (by omega) (by omega)
  rw [Nat.xor_zero] at this
  unfold unz; rw [if_pos h2]; exact this
theorem unz_odd (n : Nat) (h : n < 18446744073709551616) (h2 : ¬ n % 2 = 0) : bits .xor .i64 ((n : Int) / 2) (-1) = unz n := by
  unfold unz; rw [if_neg h2]
  have e0 : ((n / 2 : Nat) : Int) = (n : Int) / 2 := by omega
  rw [← e0]
  obtain ⟨m, hm⟩ : ∃ m, n / 2 = m := ⟨_, rfl⟩
  have hm2 : m < 9223372036854775808 := by omega
  rw [hm]
  have e1 : (BitVec.ofInt 64 (-1)).toNat = 18446744073709551615 := by decide
  show IntKind.i64.wrap ((BitVec.ofInt 64 (m : Int) ^^^ BitVec.ofInt 64 (-1)).toNat : Int) = _
  rw [BitVec.toNat_xor, ofInt_i64 m (by omega), e1, xor_ones m (by omega), IntKind.wrap_i64]
  omega
theorem and1_u64 (n : Nat) (h : n < 18446744073709551616) : bits .and .u64 (n : Int) 1 = ((n % 2 : Nat) : Int) := by
  have := u64_and_nat n 1 h (by omega)
  rw [Nat.and_one_is_mod] at this
  exact this
set_option maxRecDepth 100000 in
set_option maxHeartbeats 1000000 in
theorem int_any (A : Option Addr) (cap n : Nat) (at_ : Int) (bs : List Nat) (w : World) (hb : Byt bs) (hn : bs.length = n) (hr : Reads w w.heap.size 1 A n (bs.map bv)) (hc : n ≤ cap) (hm : cap ≤ maxLen) :
    Calls Tryz.prog 18 #[.slice A n cap, .int .i64 at_] w fun e w' => e = .returned (.tuple #[.int .i64 (unz (rdN bs at_).1), .int .i64 (rdN bs at_).2.1, .int .i64 (rdN bs at_).2.2]) ∧ w = w' := by
  obtain ⟨h1, h2, h3⟩ := rdN_lt bs at_ hb
  have HC := Lh (number_any A cap n at_ bs w hb hn hr hc hm)
  obtain ⟨v, hv⟩ : ∃ v, (rdN bs at_).1 = v := ⟨_, rfl⟩
  obtain ⟨p, hp⟩ : ∃ p, (rdN bs at_).2.1 = p := ⟨_, rfl⟩
  obtain ⟨er, he⟩ : ∃ er, (rdN bs at_).2.2 = er := ⟨_, rfl⟩
  rw [hv, hp, he] at HC
  rw [hv] at h1
  rw [hv, hp, he]
  clear hv hp he h2 h3 hr
  have a1 := and1_u64 v h1
  by_cases ho : v % 2 = 0
  · have a2 := unz_even v h1 ho
    rw [ho] at a1
    have H := Lh ho
    clear ho
    go_enter Tryz.func18, Tryz.ntmps18
    go_wp2_with (go_at_call 20; refine HC.out.mono ?_; rintro e w' ⟨rfl, rfl⟩)
    go_ret3
    exact ⟨rfl, rfl⟩
  · have a2 := unz_odd v h1 ho
    rw [show v % 2 = 1 from by omega] at a1
    have H := Lh ho
    clear ho
    go_enter Tryz.func18, Tryz.ntmps18
    go_wp2_with (go_at_call 20; refine HC.out.mono ?_; rintro e w' ⟨rfl, rfl⟩)
    go_ret3
    exact ⟨rfl, rfl⟩
def RetB3 (r : List Nat × Int × Nat) (w : World) (e : Ending) (w' : World) : Prop :=
  ∃ (A : Option Addr) (n cap : Nat), e = .returned (.tuple #[.slice A n cap, .int .i64 r.2.1, .int .i64 r.2.2]) ∧ Reads w' w'.heap.size 1 A n (r.1.map bv) ∧ n ≤ cap ∧ cap ≤ maxLen ∧ Below w.heap.size w w'
theorem retB3_nil (er : Nat) (w : World) : RetB3 ([], 0, er) w (.returned (.tuple #[.slice none 0 0, .int .i64 0, .int .i64 er])) w :=
  ⟨none, 0, 0, rfl, Reads.none_, Nat.le_refl _, by unfold maxLen; omega, Below.refl _ _⟩
set_option maxRecDepth 100000 in
set_option maxHeartbeats 1000000 in
theorem bytes_any (A : Option Addr) (cap n : Nat) (at_ most : Int) (bs : List Nat) (w : World) (hb : Byt bs) (hn : bs.length = n) (hr : Reads w w.heap.size 1 A n (bs.map bv)) (hc : n ≤ cap) (hm : cap ≤ maxLen) (hn2 : n ≤ 140737488351232) (hmo : most ≤ 9223372036854775807) :
    Calls Tryz.prog 50 #[.slice A n cap, .int .i64 at_, .int .i64 most] w (RetB3 (rdB bs at_ most) w) := by
  obtain ⟨h1, h2, h3⟩ := rdN_lt bs at_ hb
  have HC := Lh (number_any A cap n at_ bs w hb hn hr hc hm)
  have hdef : rdB bs at_ most = (if (rdN bs at_).2.2 ≠ 0 then ([], 0, (rdN bs at_).2.2)
      else if most < 0 ∨ most < (rdN bs at_).1 ∨ (bs.length : Int) - (rdN bs at_).2.1 < (rdN bs at_).1 then ([], 0, 40)
      else ((bs.drop (rdN bs at_).2.1.toNat).take (rdN bs at_).1, (rdN bs at_).2.1 + (rdN bs at_).1, 0)) := rfl
  obtain ⟨v, hv⟩ : ∃ v, (rdN bs at_).1 = v := ⟨_, rfl⟩
  obtain ⟨p0, hp⟩ : ∃ p, (rdN bs at_).2.1 = p := ⟨_, rfl⟩
  obtain ⟨er, he⟩ : ∃ er, (rdN bs at_).2.2 = er := ⟨_, rfl⟩
  rw [hv, hp, he] at HC hdef
  rw [hv] at h1
  rw [hp] at h2 h3
  obtain ⟨p, rfl⟩ := Int.eq_ofNat_of_zero_le h2
  rw [hn] at h3 hdef
  have HR := Lh hr
  have HD := Lh hdef
  clear hv hp he hr hdef
  by_cases e0 : er = 0
  · have eb : ((er : Int) != 0) = false := by rw [e0]; rfl
    have hd2 := HD.out
    rw [if_neg (by simp [e0])] at hd2
    by_cases hbad : most < 0 ∨ most < v ∨ (n : Int) - p < v
    · rw [if_pos hbad] at hd2
      rw [hd2]
      have E0 := Lh e0
      clear HD hd2 e0
      by_cases c1 : most < 0
      · clear hbad
        go_enter Tryz.func50, Tryz.ntmps50
        go_wp2_with (go_at_call 20; refine HC.out.mono ?_; rintro e w' ⟨rfl, rfl⟩)
        go_ret3
        exact retB3_nil 40 _
      · have c1' : 0 ≤ most := by omega
        by_cases c2 : most < v
        · clear hbad
          go_enter Tryz.func50, Tryz.ntmps50
          go_wp2_with (go_at_call 20; refine HC.out.mono ?_; rintro e w' ⟨rfl, rfl⟩)
          go_ret3
          exact retB3_nil 40 _
        · have c3 : (n : Int) - p < v := by omega
          have c4 : (v : Int) ≤ most := by omega
          clear hbad
          go_enter Tryz.func50, Tryz.ntmps50
          go_wp2_with (go_at_call 20; refine HC.out.mono ?_; rintro e w' ⟨rfl, rfl⟩)
          go_ret3
          exact retB3_nil 40 _
    · rw [if_neg hbad] at hd2
      rw [hd2]
      have E0 := Lh e0
      clear HD hd2 e0
      have c1 : 0 ≤ most := by omega
      have c2 : (v : Int) ≤ most := by omega
      have c3 : (v : Int) ≤ (n : Int) - p := by omega
      have c4 : p + v ≤ n := by omega
      clear hbad
      obtain ⟨i0, hi, k2, k3, k4⟩ := info_parts Tryz.infoU8
      have hsl : ∀ W : World, (Instr.sliceAt 33 (.slice A n cap) (some (.int .i64 (p : Int))) (some (.int .i64 ((p : Int) + (v : Int)))) none).run Tryz.prog W = .ok (.slice (if cap = p then A else A.map (·.add (p * 1))) v (cap - p)) W := fun W => by
        have := slice_both Tryz.underlying33 hi k3 A n cap p (p + v) (by omega) (by omega) W
        rw [show p + v - p = v from by omega, Int.natCast_add] at this
        exact this
      have hcut := HR.out.cut (k := p) (by omega) hc
      obtain ⟨A2, hA2⟩ : ∃ A2, (if cap = p then A else A.map (·.add (p * 1))) = A2 := ⟨_, rfl⟩
      rw [hA2] at hsl hcut
      rw [Nat.mul_one, ← List.map_drop] at hcut
      have hlen : ((bs.drop p).take v).length = v := by simp [hn]; omega
      have hrd : Reads w w.heap.size 1 A2 v (((bs.drop p).take v).map bv) := by
        refine ⟨by rw [List.length_map, hlen, Nat.mul_one], fun hv0 => ?_⟩
        obtain ⟨ad, ea, hbl, hcells⟩ := hcut.2 (by omega)
        refine ⟨ad, ea, hbl, fun j u hu => hcells j u ?_⟩
        rw [List.map_take] at hu
        have hj : j < v := by
          have := (List.getElem?_eq_some_iff.1 hu).1
          rw [List.length_take] at this; omega
        rw [List.getElem?_take_of_lt hj] at hu
        exact hu
      obtain ⟨zs, hz⟩ : ∃ zs, (bs.drop p).take v = zs := ⟨_, rfl⟩
      rw [hz] at hrd hlen
      rw [show (bs.drop ((p : Int)).toNat).take v = zs from hz]
      have HRD := Lh hrd
      have HL := Lh hlen
      clear hcut hA2 hrd hlen hi k2 k3 k4 hz
      go_enter Tryz.func50, Tryz.ntmps50
      go_wp2_with (go_at_call 20; refine HC.out.mono ?_; rintro e w' ⟨rfl, rfl⟩)
      refine (put_any A2 none (cap - p) 0 v 0 (zs.map bv) [] _ HRD.out Reads.none_ (bv_one _) (by simp) (by omega)).mono ?_
      rintro e w2 h
      obtain ⟨A3, c3', rfl, hr3, hc3, hm3, hb3, _⟩ := h.open
      rw [List.append_nil, List.length_map, HL.out] at hr3 hc3 ⊢
      have HR3 := Lh hr3
      have HC3 := Lh hc3
      have HM3 := Lh hm3
      clear h hr3 hc3 hm3
      go_wp2
      go_ret3
      exact ⟨A3, v, c3', rfl, HR3.out, HC3.out, HM3.out, hb3⟩
  · have eb : ((er : Int) != 0) = true := by rw [bne_iff_ne]; omega
    have hd2 := HD.out
    rw [if_pos e0] at hd2
    rw [hd2]
    clear HD hd2
    go_enter Tryz.func50, Tryz.ntmps50
    go_wp2_with (go_at_call 20; refine HC.out.mono ?_; rintro e w' ⟨rfl, rfl⟩)
    go_ret3
    exact retB3_nil er _
end Go.Proofs.YtijdbdenmcjmmaaGreatDoor
end
section
namespace Go.Proofs.YtijdbdenmcjmmaaGreatDoor
open Go.RowKit OctMath
set_option linter.unusedVariables false
def RetB (ys : List Nat) (w : World) (e : Ending) (w' : World) : Prop :=
  ∃ A n cap, e = .returned (.slice A n cap) ∧ Hid (Reads w' w'.heap.size 1 A n (ys.map bv)) ∧ Below w.heap.size w w' ∧ n ≤ cap ∧ cap ≤ maxLen
theorem RetS.toB {t : TypeId} {xs : List Value} {ys : List Nat} {w w' : World} {e : Ending} (h : RetS t xs w e w') (hx : xs = ys.map bv) : RetB ys w e w' := by
  subst hx
  obtain ⟨A, cap, rfl, hr, h1, h2, hb, _⟩ := h.open
  exact ⟨A, _, cap, rfl, Lh hr, hb, h1, h2⟩
theorem reads_len {w : World} {B n : Nat} {A : Option Addr} {ys : List Nat} (h : Reads w B 1 A n (ys.map bv)) : n = ys.length := by simpa using h.1.symm
section
variable (A : Option Addr) (cap l : Nat) (xs : List Nat) (w : World) (hr : Hid (Reads w w.heap.size 1 A l (xs.map bv)))
include hr
theorem putnumB (n : Nat) (hn : n < 18446744073709551616) (hm : l ≤ 140737488351232) : Calls Tryz.prog 33 #[.slice A l cap, .int .u64 n] w (RetB (xs ++ putN n) w) :=
  (putnum_any A cap l n (xs.map bv) w hr.out (bv_one xs) hn hm).mono fun _ _ h => RetS.toB h (by simp)
theorem putintB (n : Int) (n1 : -9223372036854775808 ≤ n) (n2 : n ≤ 9223372036854775807) (hm : l ≤ 140737488351232) : Calls Tryz.prog 32 #[.slice A l cap, .int .i64 n] w (RetB (xs ++ putN (zz n)) w) :=
  (putint_any A cap l n (xs.map bv) w hr.out (bv_one xs) n1 n2 hm).mono fun _ _ h => RetS.toB h (by simp)
theorem putflagB (f : Bool) (hm : l ≤ 140737488351232) : Calls Tryz.prog 34 #[.slice A l cap, .bool f] w (RetB (xs ++ [f.toNat]) w) :=
  (putflag_any f A cap l (xs.map bv) w hr.out (bv_one xs) hm).mono fun _ _ h => RetS.toB h (by simp)
theorem putbytesB (B : Option Addr) (cap' m : Nat) (ys : List Nat) (hr' : Hid (Reads w w.heap.size 1 B m (ys.map bv))) (hm : l + m ≤ 140737488351000) : Calls Tryz.prog 38 #[.slice A l cap, .slice B m cap'] w (RetB (xs ++ (putN m ++ ys)) w) :=
  (putbytes_any A B cap cap' l m (xs.map bv) (ys.map bv) w hr.out (bv_one xs) hr'.out (bv_one ys) (by have := putN_len10 (n := m) (by omega); omega)).mono fun _ _ h => RetS.toB h (by simp)
end
end Go.Proofs.YtijdbdenmcjmmaaGreatDoor
end
section
namespace Go.Proofs.YtijdbdenmcjmmaaGreatDoor
open Go.RowKit OctMath
set_option linter.unusedVariables false
set_option linter.unusedSimpArgs false
def GE (w : World) : Prop := w.cell? ⟨0, 0, none⟩ = some (.iface 195 (.agg #[.pointer (some ⟨1, 67, none⟩)]))
theorem GE.lt {w : World} (h : GE w) : 0 < w.heap.size := World.block_lt_of_cell? _ ⟨0, 0, none⟩ h
theorem GE.later {w w' : World} (h : GE w) (hb : Below w.heap.size w w') : GE w' := (hb.cell (p := ⟨0, 0, none⟩) h.lt).trans h
set_option maxRecDepth 100000 in
set_option maxHeartbeats 4000000 in
theorem wnumber_any (e : Int) (w : World) (hg : Hid (GE w)) : Calls Tryz.prog 31 #[.iface 94 (.int .i64 e)] w fun ev w' => ev = .returned (.int .i64 e) ∧ Below w.heap.size w w' := by
  have hb0 : Below w.heap.size w (w.alloc (.cells #[.int .i64 0] 94)) := (Below.refl _ _).alloc (Nat.le_refl _) _
  have hx : Blk (w.alloc (.cells #[.int .i64 0] 94)) w.heap.size 94 #[.int .i64 0] := Blk.new w _ _
  obtain ⟨w1, ew1⟩ : ∃ w1, w.alloc (.cells #[.int .i64 0] 94) = w1 := ⟨_, rfl⟩
  rw [ew1] at hb0 hx
  have HAS := Lh (as_hit e ⟨w.heap.size, 0, none⟩ (.int .i64 0) w1 (hg.out.later hb0) (hx.cell 0) (hx.frozen 0))
  have HX := Lh hx
  have HB := Lh hb0
  clear hx hb0
  go_enter Tryz.func31, Tryz.ntmps31
  go_wp2_with (go_at_call 51; refine HAS.out.mono ?_; rintro ev w' ⟨rfl, hw⟩
               have h1 := ((HX.out.alloc (.cells #[.pointer (some ⟨w.heap.size, 0, none⟩)] 129)).alloc (.cells #[.pointer (some ⟨1, 129, none⟩), .pointer (some ⟨w1.heap.size, 0, none⟩), .int .u64 150] 164)).alloc (.cells #[.pointer (some ⟨1, 129, none⟩), .pointer (some ⟨w1.heap.size, 0, none⟩), .int .u64 150] 164) |>.alloc (.cells #[.int .i64 e] 94) |>.set_ 0 (.int .i64 e)
               have h2 := ((((HB.out.alloc HB.out.size (.cells #[.pointer (some ⟨w.heap.size, 0, none⟩)] 129)).alloc (by simp; have := HB.out.size; omega) (.cells #[.pointer (some ⟨1, 129, none⟩), .pointer (some ⟨w1.heap.size, 0, none⟩), .int .u64 150] 164)).alloc (by simp; have := HB.out.size; omega) (.cells #[.pointer (some ⟨1, 129, none⟩), .pointer (some ⟨w1.heap.size, 0, none⟩), .int .u64 150] 164)).alloc (by simp; have := HB.out.size; omega) (.cells #[.int .i64 e] 94)).trans ((Only.set_ _ w.heap.size 0 (.int .i64 e)).below (Nat.le_refl _))
               rw [hw] at h1 h2
               have c0 : w'.cell? ⟨w.heap.size, 0, none⟩ = some (.int .i64 e) := h1.cell 0
               have H2 := Lh h2
               clear h1 h2 hw ew1)
  go_ret
  exact ⟨rfl, H2.out⟩
end Go.Proofs.YtijdbdenmcjmmaaGreatDoor
end
