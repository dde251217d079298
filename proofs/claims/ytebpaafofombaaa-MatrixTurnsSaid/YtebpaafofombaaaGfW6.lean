/-
  One contract a function, for every byte and every exponent: Div, Log, Exp, Pow of the program and of the reference give the same plain functions.
-/
import Derived.Test.YtebpaafofombaaaGfW5
namespace Go.Proofs.Ytebpaafofombaaa
open Go.RowKit GfMath
theorem u8_of {a : Int} (w : (Lit.int .u8 a).wf = true) : ∃ n : Nat, a = n ∧ n < 256 := by
  have hx : 0 ≤ a ∧ a ≤ 255 := by simpa [Lit.wf, IntKind.min, IntKind.max, IntKind.signed, IntKind.bits] using w
  exact ⟨a.toNat, by omega, by omega⟩
theorem mul_i (a b : Int) (ha0 : 0 ≤ a) (ha : a < 256) (hb0 : 0 ≤ b) (hb : b < 256) (w : World) :
    Calls Try.prog 40 #[.int .u8 a, .int .u8 b] w fun e w' => e = .returned (.int .u8 (gmul a.toNat b.toNat : Nat)) ∧ w = w' := by
  obtain ⟨A, rfl⟩ := Int.eq_ofNat_of_zero_le ha0
  obtain ⟨B, rfl⟩ := Int.eq_ofNat_of_zero_le hb0
  exact (mul_any A B (by omega) (by omega) w).mono fun e w' ⟨h1, h2⟩ => ⟨h1, h2.symm⟩
theorem rmul_i (a b : Int) (ha0 : 0 ≤ a) (ha : a < 256) (hb0 : 0 ≤ b) (hb : b < 256) (w : World) :
    Calls Try.prog 41 #[.int .u8 a, .int .u8 b] w fun e w' => e = .returned (.int .u8 (gmul a.toNat b.toNat : Nat)) ∧ w = w' := by
  obtain ⟨A, rfl⟩ := Int.eq_ofNat_of_zero_le ha0
  obtain ⟨B, rfl⟩ := Int.eq_ofNat_of_zero_le hb0
  exact rmul_any A B (by omega) (by omega) w
def Ez (n : Int) : Nat := E (n % 255).toNat
def lgv (a : Nat) : Nat := if a = 0 then 0 else lg a
def lge (a : Nat) : Nat := if a = 0 then 10 else 0
def gdv (a b : Nat) : Nat := if b = 0 then 0 else gdiv a b
theorem gdv_ref {a b : Nat} (ha : a < 256) (hb : b < 256) (h : b ≠ 0) : gmul a (gpw b 254) = gdiv a b := by
  have hl := lg_lt b
  have hp := gpw_lt b 254
  unfold gdiv
  split
  · rename_i h0; rw [h0, zero_gmul hp]
  · rename_i h0
    have hla := lg_lt a
    have e := gmul_EE (lg a) (lg b * 254)
    rw [E_lg ha h0] at e
    rw [gpw_E hb h, e, E_mod]
    rw [← E_mod (lg a + lg b * 254), ← E_mod (lg a + 255 - lg b)]
    have h3 : (lg a + lg b * 254) % 255 = (lg a + 255 - lg b) % 255 := by omega
    rw [h3]
theorem div_all (a b : Nat) (ha : a < 256) (hb : b < 256) (w : World) :
    Calls Try.prog 38 #[.int .u8 a, .int .u8 b] w fun e w' => e = .returned (.tuple #[.int .u8 (gdv a b), .int .i64 (lge b)]) ∧ Below w.heap.size w w' := by
  by_cases h : b = 0
  · subst h; exact (div_zero a w).mono fun e w' ⟨h1, h2⟩ => ⟨h1, h2 ▸ Below.refl _ _⟩
  · unfold gdv lge; rw [if_neg h, if_neg h]; exact div_any a b ha hb h w
end Go.Proofs.Ytebpaafofombaaa
