/-
  THE REFERENCE'S READERS OF LAYER 3.
-/
import Derived.Test.YthgiafjiemiifaaPaR2
namespace Go.Proofs.Ythgiafjiemiifaa
open Go.RowKit OctMath
set_option linter.unusedVariables false
set_option maxRecDepth 100000 in
set_option maxHeartbeats 1000000 in
theorem rflag_any (A : Option Addr) (cap n p : Nat) (bs : List Nat) (w : World) (hb : Byt bs) (hn : bs.length = n) (hr : Reads w w.heap.size 1 A n (bs.map bv)) (hm : n ≤ maxLen) :
    Calls Try.prog 98 #[.slice A n cap, .int .i64 (p : Int)] w fun e w' => e = .returned (.tuple #[.bool (rdFl bs p).1, .int .i64 (rdFl bs p).2.1, .int .i64 (rdFl bs p).2.2]) ∧ w = w' := by
  unfold maxLen at hm
  have HR := Lib.hid (show rdFl bs p = if p < bs.length then (if bs.getD p 0 ≤ 1 then (decide (0 < bs.getD p 0), (p : Int) + 1, 0) else (false, 0, 41)) else if p = bs.length then (false, 0, 40) else (false, 0, 2) from rfl)
  rw [hn] at HR
  generalize rdFl bs p = r at *
  rcases Nat.lt_trichotomy p n with h | h | h
  · rw [if_pos h] at HR
    have d1 : decide ((p : Int) < 0) = false := decide_eq_false (by omega)
    have d2 : decide ((p : Int) > (n : Int)) = false := decide_eq_false (by omega)
    have d3 : decide (n < p) = false := decide_eq_false (by omega)
    have d4 : ((p : Int) == (n : Int)) = false := by rw [beq_eq_false_iff_ne]; omega
    obtain ⟨ad, rfl, hbl, hc⟩ := hr.byteD h
    have p0 : (0 : Int) ≤ (p : Int) := by omega
    have p1 : (p : Int) < (n : Int) := by omega
    have pb : (p : Int) + 1 ≤ 9223372036854775807 := by omega
    obtain ⟨x, hx⟩ : ∃ x, bs.getD p 0 = x := ⟨_, rfl⟩
    rw [hx] at HR hc
    clear hx
    by_cases h1 : x ≤ 1
    · rw [if_pos h1] at HR
      have d5 : decide ((x : Int) > 1) = false := decide_eq_false (by omega)
      have d6 : decide (1 < x) = false := decide_eq_false (by omega)
      go_enter Try.func98, Try.ntmps98
      go_wp2
      go_ret3
      rw [HR.out]
      refine ⟨?_, rfl⟩
      rcases (show x = 0 ∨ x = 1 by omega) with rfl | rfl <;> simp
    · rw [if_neg h1] at HR
      have d5 : decide ((x : Int) > 1) = true := decide_eq_true (by omega)
      have d6 : decide (1 < x) = true := decide_eq_true (by omega)
      go_enter Try.func98, Try.ntmps98
      go_wp2
      go_ret3
      rw [HR.out]
      exact ⟨rfl, rfl⟩
  · subst h
    rw [if_neg (by omega), if_pos rfl] at HR
    have d4 : ((p : Int) == (p : Int)) = true := by simp
    have d1 : decide ((p : Int) < 0) = false := decide_eq_false (by omega)
    have d2 : decide ((p : Int) > (p : Int)) = false := decide_eq_false (by omega)
    go_enter Try.func98, Try.ntmps98
    go_wp2
    go_ret3
    rw [HR.out]
    exact ⟨rfl, rfl⟩
  · rw [if_neg (by omega), if_neg (by omega)] at HR
    have d1 : decide ((p : Int) < 0) = false := decide_eq_false (by omega)
    have d2 : decide ((p : Int) > (n : Int)) = true := decide_eq_true (by omega)
    have d3 : decide (n < p) = true := decide_eq_true h
    go_enter Try.func98, Try.ntmps98
    go_wp2
    go_ret3
    rw [HR.out]
    exact ⟨rfl, rfl⟩
end Go.Proofs.Ythgiafjiemiifaa
