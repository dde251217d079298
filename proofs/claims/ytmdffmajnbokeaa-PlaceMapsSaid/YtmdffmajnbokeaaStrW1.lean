/-
  The walks of Mix and Hash, the program's and the reference's.
-/
import Derived.Test.YtmdffmajnbokeaaLib
import Derived.Test.YtmdffmajnbokeaaStrMath
import Derived.Laws.BitsAllLaws
namespace Go.Proofs.Ytmdffmajnbokeaa
open Go.RowKit StrMath
set_option linter.unusedVariables false
def mix1 (x : Nat) : Nat := (x ^^^ x / 1073741824) * 13787848793156543929 % 18446744073709551616
def mix2 (x : Nat) : Nat := (x ^^^ x / 134217728) * 10723151780598845931 % 18446744073709551616
def mixN (x : Nat) : Nat := mix2 (mix1 x) ^^^ mix2 (mix1 x) / 2147483648
theorem xor_lt64 {a b : Nat} (ha : a < 18446744073709551616) (hb : b < 18446744073709551616) : a ^^^ b < 18446744073709551616 := Nat.xor_lt_two_pow (n := 64) ha hb
theorem mix1_lt (x : Nat) : mix1 x < 18446744073709551616 := Nat.mod_lt _ (by decide)
theorem mix2_lt (x : Nat) : mix2 x < 18446744073709551616 := Nat.mod_lt _ (by decide)
theorem mixN_lt (x : Nat) : mixN x < 18446744073709551616 := by
  have := mix2_lt (mix1 x)
  exact xor_lt64 this (by omega)
/-- One mixing's five steps, in the walk's own words. -/
theorem mix_eqs (x : Nat) (hx : x < 18446744073709551616) : ∃ a b c d : Nat,
    bits .xor .u64 (x : Int) ((x : Int) / 1073741824) = (a : Int) ∧ IntKind.u64.wrap ((a : Int) * 13787848793156543929) = (b : Int) ∧
    bits .xor .u64 (b : Int) ((b : Int) / 134217728) = (c : Int) ∧ IntKind.u64.wrap ((c : Int) * 10723151780598845931) = (d : Int) ∧
    bits .xor .u64 (d : Int) ((d : Int) / 2147483648) = ((mixN x : Nat) : Int) := by
  have h1 := mix1_lt x
  have h2 := mix2_lt (mix1 x)
  refine ⟨_, mix1 x, _, mix2 (mix1 x), u64_xor_nat x (x / 1073741824) hx (by omega), ?_, u64_xor_nat (mix1 x) (mix1 x / 134217728) h1 (by omega), ?_, u64_xor_nat (mix2 (mix1 x)) (mix2 (mix1 x) / 2147483648) h2 (by omega)⟩
  · rw [IntKind.wrap_u64]; unfold mix1; omega
  · rw [IntKind.wrap_u64]; conv => rhs; unfold mix2
    omega
set_option maxRecDepth 100000 in
theorem mix_any (x : Nat) (w : World) (hx : x < 18446744073709551616) :
    Calls Try.prog 38 #[.int .u64 x] w fun e w' => e = .returned (.int .u64 (mixN x : Nat)) ∧ w = w' := by
  obtain ⟨a, b, c, d, q1, q2, q3, q4, q5⟩ := mix_eqs x hx
  go_enter Try.func38, Try.ntmps38
  go_wp2
  go_ret
  exact ⟨rfl, rfl⟩
set_option maxRecDepth 100000 in
theorem rmix_any (x : Nat) (w : World) (hx : x < 18446744073709551616) :
    Calls Try.prog 41 #[.int .u64 x] w fun e w' => e = .returned (.int .u64 (mixN x : Nat)) ∧ w = w' := by
  obtain ⟨a, b, c, d, q1, q2, q3, q4, q5⟩ := mix_eqs x hx
  go_enter Try.func41, Try.ntmps41
  go_wp2
  go_ret
  exact ⟨rfl, rfl⟩
def hash1 (a : Nat) : Nat := mixN ((a + 11400714819323198485) % 18446744073709551616)
def hashN (a b c : Nat) : Nat := mixN (mixN (hash1 a ^^^ b) ^^^ c)
theorem hash1_lt (a : Nat) : hash1 a < 18446744073709551616 := mixN_lt _
theorem hashN_lt (a b c : Nat) : hashN a b c < 18446744073709551616 := mixN_lt _
theorem hash_eqs (a b c : Nat) (hb : b < 18446744073709551616) (hc : c < 18446744073709551616) : ∃ g p q r : Nat, g < 18446744073709551616 ∧ p < 18446744073709551616 ∧ q < 18446744073709551616 ∧ r < 18446744073709551616 ∧ 
    IntKind.u64.wrap ((a : Int) + 11400714819323198485) = (g : Int) ∧ bits .xor .u64 ((mixN g : Nat) : Int) (b : Int) = (p : Int) ∧ bits .xor .u64 ((mixN p : Nat) : Int) (c : Int) = (q : Int) ∧ mixN q = hashN a b c := by
  refine ⟨(a + 11400714819323198485) % 18446744073709551616, hash1 a ^^^ b, mixN (hash1 a ^^^ b) ^^^ c, 0, Nat.mod_lt _ (by decide), xor_lt64 (hash1_lt a) hb, xor_lt64 (mixN_lt _) hc, by decide, ?_, u64_xor_nat _ b (hash1_lt a) hb, u64_xor_nat _ c (mixN_lt _) hc, rfl⟩
  rw [IntKind.wrap_u64]; omega
set_option maxRecDepth 100000 in
theorem hash_any (a b c : Nat) (w : World) (hb : b < 18446744073709551616) (hc : c < 18446744073709551616) :
    Calls Try.prog 26 #[.int .u64 a, .int .u64 b, .int .u64 c] w fun e w' => e = .returned (.int .u64 (hashN a b c : Nat)) ∧ w = w' := by
  obtain ⟨g, p, q, r, hg, hp, hq, _, q1, q2, q3, q4⟩ := hash_eqs a b c hb hc
  have Q4 := Lib.hid q4
  clear q4
  go_enter Try.func26, Try.ntmps26
  go_wp2_with fail
  refine (mix_any g _ hg).mono ?_
  rintro e w' ⟨rfl, rfl⟩
  go_wp2_with fail
  refine (mix_any p _ hp).mono ?_
  rintro e w' ⟨rfl, rfl⟩
  go_wp2_with fail
  refine (mix_any q _ hq).mono ?_
  rintro e w' ⟨rfl, rfl⟩
  rw [Q4.out]
  go_wp2
  go_ret
  exact ⟨rfl, rfl⟩
set_option maxRecDepth 100000 in
theorem rhash_any (a b c : Nat) (w : World) (hb : b < 18446744073709551616) (hc : c < 18446744073709551616) :
    Calls Try.prog 40 #[.int .u64 a, .int .u64 b, .int .u64 c] w fun e w' => e = .returned (.int .u64 (hashN a b c : Nat)) ∧ w = w' := by
  obtain ⟨g, p, q, r, hg, hp, hq, _, q1, q2, q3, q4⟩ := hash_eqs a b c hb hc
  have Q4 := Lib.hid q4
  clear q4
  go_enter Try.func40, Try.ntmps40
  go_wp2_with fail
  refine (rmix_any g _ hg).mono ?_
  rintro e w' ⟨rfl, rfl⟩
  go_wp2_with fail
  refine (rmix_any p _ hp).mono ?_
  rintro e w' ⟨rfl, rfl⟩
  go_wp2_with fail
  refine (rmix_any q _ hq).mono ?_
  rintro e w' ⟨rfl, rfl⟩
  rw [Q4.out]
  go_wp2
  go_ret
  exact ⟨rfl, rfl⟩
end Go.Proofs.Ytmdffmajnbokeaa
