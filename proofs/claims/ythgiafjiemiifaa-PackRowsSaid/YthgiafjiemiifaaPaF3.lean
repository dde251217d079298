/-
  THE REFERENCE'S NUMBERS, every place.
-/
import Derived.Test.YthgiafjiemiifaaPaF2
namespace Go.Proofs.Ythgiafjiemiifaa
open Go.RowKit OctMath
set_option linter.unusedVariables false
theorem rnumber_any (A : Option Addr) (cap n : Nat) (at_ : Int) (bs : List Nat) (w : World) (hb : Byt bs) (hn : bs.length = n) (hr : Reads w w.heap.size 1 A n (bs.map bv)) (hc : n ≤ cap) (hm : cap ≤ maxLen) :
    Calls Try.prog 93 #[.slice A n cap, .int .i64 at_] w fun e w' => e = .returned (.tuple #[.int .u64 (rdN bs at_).1, .int .i64 (rdN bs at_).2.1, .int .i64 (rdN bs at_).2.2]) ∧ w = w' := by
  by_cases h : at_ < 0 ∨ (n : Int) < at_
  · have e : rdN bs at_ = (0, 0, 2) := by unfold rdN; rw [hn, if_pos h]
    rw [e]
    exact rnumber_out A cap n at_ w h (by unfold maxLen at *; omega)
  · obtain ⟨k, rfl⟩ := Int.eq_ofNat_of_zero_le (show 0 ≤ at_ by omega)
    exact rnumber_in A cap n k bs w hb hn hr (by omega) hc hm
theorem unz_half (v : Nat) (h : v < 18446744073709551616) : (v % 2 = 0 → IntKind.i64.wrap ((v : Int) / 2) = unz v) ∧ (¬ v % 2 = 0 → -1 - (v : Int) / 2 = unz v) := by
  unfold unz
  constructor
  · intro h2; rw [if_pos h2, IntKind.wrap_i64]; omega
  · intro h2; rw [if_neg h2]; omega
theorem rdN_err {bs : List Nat} {at_ : Int} (h : (rdN bs at_).2.2 ≠ 0) : rdN bs at_ = (0, 0, (rdN bs at_).2.2) := by
  unfold rdN at h ⊢
  split
  · rfl
  · dsimp only
    split
    · rename_i h1 h2; simp [h1, h2] at h
    · rfl
set_option maxRecDepth 100000 in
set_option maxHeartbeats 1000000 in
theorem rint_any (A : Option Addr) (cap n : Nat) (at_ : Int) (bs : List Nat) (w : World) (hb : Byt bs) (hn : bs.length = n) (hr : Reads w w.heap.size 1 A n (bs.map bv)) (hc : n ≤ cap) (hm : cap ≤ maxLen) :
    Calls Try.prog 90 #[.slice A n cap, .int .i64 at_] w fun e w' => e = .returned (.tuple #[.int .i64 (unz (rdN bs at_).1), .int .i64 (rdN bs at_).2.1, .int .i64 (rdN bs at_).2.2]) ∧ w = w' := by
  obtain ⟨h1, h2, h3⟩ := rdN_lt bs at_ hb
  have HC := Lib.hid (rnumber_any A cap n at_ bs w hb hn hr hc hm)
  have HE := Lib.hid (rdN_err (bs := bs) (at_ := at_))
  generalize rdN bs at_ = r at *
  obtain ⟨v, p, er⟩ := r
  simp only at h1 HC HE
  clear h2 h3 hr
  by_cases he : er = 0
  · subst he
    obtain ⟨u1, u2⟩ := unz_half v h1
    have a1 := and1_u64 v h1
    by_cases ho : v % 2 = 0
    · have a2 := u1 ho
      rw [ho] at a1
      clear ho u1 u2 HE
      go_enter Try.func90, Try.ntmps90
      go_wp2_with (go_at_call 93; refine HC.out.mono ?_; rintro e w' ⟨rfl, rfl⟩)
      go_ret3
      exact ⟨rfl, rfl⟩
    · have U := Lib.hid (u2 ho)
      rw [show v % 2 = 1 from by omega] at a1
      clear ho u1 u2 HE
      go_enter Try.func90, Try.ntmps90
      go_wp2_with (go_at_call 93; refine HC.out.mono ?_; rintro e w' ⟨rfl, rfl⟩)
      go_ret3
      rw [← U.out]
      exact ⟨rfl, rfl⟩
  · have hz := HE.out he
    simp only [Prod.mk.injEq] at hz
    obtain ⟨rfl, rfl, -⟩ := hz
    have hne : ((er : Int) != 0) = true := by rw [bne_iff_ne]; omega
    clear HE he
    go_enter Try.func90, Try.ntmps90
    go_wp2_with (go_at_call 93; refine HC.out.mono ?_; rintro e w' ⟨rfl, rfl⟩)
    go_ret3
    exact ⟨rfl, rfl⟩
end Go.Proofs.Ythgiafjiemiifaa
