/-
  The walks of Word and Flag; contracts that speak of rows of bytes alone.
-/
import Derived.Test.YthdmnmpdmniaaaaOctW7
import Derived.Test.YthdmnmpdmniaaaaUpto
namespace Go.Proofs.Ythdmnmpdmniaaaa
open Go.RowKit OctMath
set_option linter.unusedVariables false
/-- A slice of bytes that reads as a list; what was there stays. -/
def RetB (ys : List Nat) (w : World) (e : Ending) (w' : World) : Prop :=
  ∃ A n cap, e = .returned (.slice A n cap) ∧ Hid (Reads w' w'.heap.size 1 A n (ys.map bv)) ∧ Below w.heap.size w w' ∧ n ≤ cap ∧ cap ≤ maxLen
theorem RetS.toB {t : TypeId} {xs : List Value} {ys : List Nat} {w w' : World} {e : Ending} (h : RetS t xs w e w') (hx : xs = ys.map bv) : RetB ys w e w' := by
  subst hx
  obtain ⟨A, cap, rfl, hr, h1, h2, hb, _⟩ := h.open
  exact ⟨A, _, cap, rfl, Lib.hid hr, hb, h1, h2⟩
theorem reads_len {w : World} {B n : Nat} {A : Option Addr} {ys : List Nat} (h : Reads w B 1 A n (ys.map bv)) : n = ys.length := by simpa using h.1.symm
section
variable (A : Option Addr) (cap l : Nat) (xs : List Nat) (w : World) (hr : Hid (Reads w w.heap.size 1 A l (xs.map bv)))
include hr
theorem putnumB (n : Nat) (hn : n < 18446744073709551616) (hm : l ≤ 140737488351232) : Calls Try.prog 13 #[.slice A l cap, .int .u64 n] w (RetB (xs ++ putN n) w) :=
  (putnum_any A cap l n (xs.map bv) w hr.out (bv_one xs) hn hm).mono fun _ _ h => RetS.toB h (by simp)
theorem rputnumB (n : Nat) (hn : n < 18446744073709551616) (hm : l ≤ 140737488351232) : Calls Try.prog 19 #[.slice A l cap, .int .u64 n] w (RetB (xs ++ putN n) w) :=
  (rputnum_any A cap l n (xs.map bv) w hr.out (bv_one xs) hn hm).mono fun _ _ h => RetS.toB h (by simp)
theorem putintB (n : Int) (n1 : -9223372036854775808 ≤ n) (n2 : n ≤ 9223372036854775807) (hm : l ≤ 140737488351232) : Calls Try.prog 17 #[.slice A l cap, .int .i64 n] w (RetB (xs ++ putN (zz n)) w) :=
  (putint_any A cap l n (xs.map bv) w hr.out (bv_one xs) n1 n2 hm).mono fun _ _ h => RetS.toB h (by simp)
theorem rputintB (n : Int) (n1 : -9223372036854775808 ≤ n) (n2 : n ≤ 9223372036854775807) (hm : l ≤ 140737488351232) : Calls Try.prog 20 #[.slice A l cap, .int .i64 n] w (RetB (xs ++ putN (zz n)) w) :=
  (rputint_any A cap l n (xs.map bv) w hr.out (bv_one xs) n1 n2 hm).mono fun _ _ h => RetS.toB h (by simp)
theorem putflagB (f : Bool) (hm : l ≤ 140737488351232) : Calls Try.prog 18 #[.slice A l cap, .bool f] w (RetB (xs ++ [f.toNat]) w) :=
  (putflag_any f A cap l (xs.map bv) w hr.out (bv_one xs) hm).mono fun _ _ h => RetS.toB h (by simp)
theorem rputflagB (f : Bool) (hm : l ≤ 140737488351232) : Calls Try.prog 22 #[.slice A l cap, .bool f] w (RetB (xs ++ [f.toNat]) w) :=
  (rputflag_any f A cap l (xs.map bv) w hr.out (bv_one xs) hm).mono fun _ _ h => RetS.toB h (by simp)
theorem putbytesB (B : Option Addr) (cap' m : Nat) (ys : List Nat) (hr' : Hid (Reads w w.heap.size 1 B m (ys.map bv))) (hm : l + m ≤ 140737488351000) : Calls Try.prog 15 #[.slice A l cap, .slice B m cap'] w (RetB (xs ++ (putN m ++ ys)) w) :=
  (putbytes_any A B cap cap' l m (xs.map bv) (ys.map bv) w hr.out (bv_one xs) hr'.out (bv_one ys) (by have := putN_len10 (n := m) (by omega); omega)).mono fun _ _ h => RetS.toB h (by simp)
theorem rputbytesB (B : Option Addr) (cap' m : Nat) (ys : List Nat) (hr' : Hid (Reads w w.heap.size 1 B m (ys.map bv))) (hm : l + m ≤ 140737488351000) : Calls Try.prog 21 #[.slice A l cap, .slice B m cap'] w (RetB (xs ++ (putN m ++ ys)) w) :=
  (rputbytes_any A B cap cap' l m (xs.map bv) (ys.map bv) w hr.out (bv_one xs) hr'.out (bv_one ys) (by omega)).mono fun _ _ h => RetS.toB h (by simp)
theorem copyB (hm : l ≤ 140737488351232) : Calls Try.prog 10 #[.slice A l cap] w (RetB xs w) :=
  (copy_any A cap l (xs.map bv) w hr.out (bv_one xs) hm).mono fun _ _ h => RetS.toB h rfl
theorem sameB (hx : Byt xs) (B : Option Addr) (cap' m : Nat) (hr' : Hid (Reads w w.heap.size 1 B m (xs.map bv))) : Calls Try.prog 12 #[.slice A l cap, .slice B m cap'] w fun e w' => e = .returned (.bool true) ∧ w = w' :=
  (same_any A B cap cap' l m xs xs w hx hx hr.out hr'.out).mono fun _ _ ⟨h1, h2⟩ => ⟨by rw [h1, decide_eq_true rfl], h2⟩
end
theorem hgrow {w w' : World} {size n : Nat} {A : Option Addr} {xs : List Value} (h : Hid (Reads w w.heap.size size A n xs)) (hb : Below w.heap.size w w') : Hid (Reads w' w'.heap.size size A n xs) := Lib.hid (h.out.grow hb)
def wordL (z : Nat) : List Nat := [z % 256, z / 256 % 256, z / 65536 % 256, z / 16777216]
theorem wordL_byt (z : Nat) (hz : z < 4294967296) : Byt (wordL z) := by
  intro x hx
  simp only [wordL, List.mem_cons, List.not_mem_nil, or_false] at hx
  omega
theorem word_row (w : World) (t : TypeId) (z : Nat) (cs : Array Value) (h : cs.toList = (wordL z).map bv) :
    RetB (wordL z) w (.returned (.slice (some ⟨w.heap.size, 0, none⟩) 4 4)) (w.alloc (.cells cs t)) := by
  have h1 := Reads.lit w t ((wordL z).map bv) 1 4 rfl
  rw [← h, Array.toArray_toList] at h1
  exact ⟨_, _, _, rfl, Lib.hid (by rw [← h]; exact h1.more (by simp)), (Below.refl _ _).alloc (Nat.le_refl _) _, Nat.le_refl _, by decide⟩
set_option maxRecDepth 100000 in
theorem word_any (z : Nat) (w : World) (hz : z < 4294967296) : Calls Try.prog 24 #[.int .u32 (z : Int)] w (RetB (wordL z) w) := by
  go_enter Try.func24, Try.ntmps24
  go_wp2
  go_ret
  exact word_row w _ z _ (by simp [wordL, bv])
set_option maxRecDepth 100000 in
theorem rword_any (z : Nat) (w : World) (hz : z < 4294967296) : Calls Try.prog 25 #[.int .u32 (z : Int)] w (RetB (wordL z) w) := by
  go_enter Try.func25, Try.ntmps25
  go_wp2
  go_ret
  exact word_row w _ z _ (by simp [wordL, bv])
end Go.Proofs.Ythdmnmpdmniaaaa
