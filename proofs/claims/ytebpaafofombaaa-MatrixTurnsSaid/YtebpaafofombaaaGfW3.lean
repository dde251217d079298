/-
  The walks of Div, Exp, Log, Pow, for bytes and every exponent.
-/
import Derived.Test.YtebpaafofombaaaGfW2
import Derived.Deep.QuietTactic
import Derived.BigQuiet
namespace Go.Proofs.Ytebpaafofombaaa
open Go.RowKit GfMath
theorem ret_tup2 {k k' : IntKind} {a b a' b' : Int} (h : a = b) (h' : a' = b') : Ending.returned (.tuple #[.int k a, .int k' a']) = .returned (.tuple #[.int k b, .int k' b']) := by rw [h, h']
set_option maxRecDepth 10000 in
set_option maxHeartbeats 400000 in
theorem div_zero (a : Nat) (w : World) :
    Calls Try.prog 38 #[.int .u8 a, .int .u8 0] w fun e w' => e = .returned (.tuple #[.int .u8 0, .int .i64 10]) ∧ w = w' := by
  go_enter Try.func38, Try.ntmps38
  go_wp2
  go_ret2
  exact ⟨rfl, rfl⟩
set_option maxRecDepth 10000 in
set_option maxHeartbeats 400000 in
theorem div_nought (b : Nat) (hb : b ≠ 0) (w : World) :
    Calls Try.prog 38 #[.int .u8 0, .int .u8 b] w fun e w' => e = .returned (.tuple #[.int .u8 0, .int .i64 0]) ∧ w = w' := by
  go_enter Try.func38, Try.ntmps38
  go_wp2
  go_ret2
  exact ⟨rfl, rfl⟩
set_option maxRecDepth 100000 in
set_option maxHeartbeats 400000 in
theorem div_else (a b : Nat) (ha : a < 256) (hb : b < 256) (ha0 : a ≠ 0) (hb0 : b ≠ 0) (w : World) :
    Calls Try.prog 38 #[.int .u8 a, .int .u8 b] w fun e w' => e = .returned (.tuple #[.int .u8 (gdiv a b), .int .i64 0]) ∧ Below w.heap.size w w' := by
  have hla := lg_lt a
  have hlb := lg_lt b
  have h1 := tab_log ha ha0
  have h2 := tab_log hb hb0
  have h3 := tab_exp (i := (lg a + 255 - lg b) % 255) (Nat.mod_lt _ (by omega))
  have hg0 : gdiv a b = E ((lg a + 255 - lg b) % 255) := by unfold gdiv; rw [if_neg ha0]
  have hg := Lib.hid hg0
  clear hg0
  go_enter Try.func38, Try.ntmps38
  go_wp2_with (go_at_call 45; refine (tables_any _).mono ?_; rintro e w' ⟨rfl, rfl⟩)
  go_quiet (fail)
  go_wp2
  go_ret2
  exact ⟨by rw [hg.out]; rfl, bel_drewN ((Below.refl _ _).alloc (Nat.le_refl _) _) _⟩
theorem div_any (a b : Nat) (ha : a < 256) (hb : b < 256) (hb0 : b ≠ 0) (w : World) :
    Calls Try.prog 38 #[.int .u8 a, .int .u8 b] w fun e w' => e = .returned (.tuple #[.int .u8 (gdiv a b), .int .i64 0]) ∧ Below w.heap.size w w' := by
  by_cases h : a = 0
  · subst h
    refine (div_nought b hb0 w).mono ?_
    rintro e w' ⟨rfl, rfl⟩
    exact ⟨rfl, Below.refl _ _⟩
  · exact div_else a b ha hb h hb0 w
theorem tmod_bd (n : Int) : -255 < n.tmod 255 ∧ n.tmod 255 < 255 := by
  have h1 := Int.tmod_lt_of_pos n (b := 255) (by omega)
  have h2 := Int.lt_tmod_of_pos n (b := 255) (by omega)
  omega
theorem tmod_emod (n : Int) : n.tmod 255 % 255 = n % 255 := by
  have h := Int.tmod_add_mul_tdiv n 255
  omega
/-- The power: every exponent. -/
def gpow (a : Nat) (n : Int) : Nat := if n = 0 then 1 else if a = 0 then 0 else E (lg a * (n % 255).toNat)
theorem gpow_lt (a : Nat) (n : Int) : gpow a n < 256 := by
  unfold gpow; split
  · omega
  · split
    · omega
    · exact E_lt _
theorem pow_idx (n m p q : Int) (l : Nat) (hm : n.tmod 255 = m) (hp : m * l = p) (hq : p.tmod 255 = q) : E (q % 255).toNat = E (l * (n % 255).toNat) := by
  have e1 := tmod_emod n
  have e2 := tmod_emod p
  rw [← E_mod (l * (n % 255).toNat)]
  congr 1
  rw [← hq, e2, ← hp, Int.mul_emod, ← hm, e1]
  have h0 : 0 ≤ n % 255 := by omega
  obtain ⟨k, hk⟩ : ∃ k : Nat, n % 255 = k := ⟨(n % 255).toNat, by omega⟩
  rw [hk, show ((k : Int) * ((l : Int) % 255) % 255) = ((k * (l % 255) % 255 : Nat) : Int) from by rw [Int.natCast_emod, Int.natCast_mul, Int.natCast_emod]; rfl, Int.toNat_natCast, Int.toNat_natCast, Nat.mul_mod, Nat.mod_mod, ← Nat.mul_mod, Nat.mul_comm]
theorem prod_bd (m : Int) (l : Nat) (h1 : -255 < m) (h2 : m < 255) (hl : l < 255) : -65025 ≤ m * l ∧ m * l ≤ 65025 := by
  have a1 : m * l ≤ 255 * l := Int.mul_le_mul_of_nonneg_right (by omega) (by omega)
  have a2 : (-255) * l ≤ m * l := Int.mul_le_mul_of_nonneg_right (by omega) (by omega)
  omega
end Go.Proofs.Ytebpaafofombaaa
