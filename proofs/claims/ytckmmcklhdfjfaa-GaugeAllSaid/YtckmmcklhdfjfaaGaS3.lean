/-
  The library's swapping of two ranges, and its rotation.
-/
import Derived.Test.YtckmmcklhdfjfaaGaS2
namespace Go.Proofs.Ytckmmcklhdfjfaa
open Go.RowKit
set_option linter.unusedVariables false
set_option maxRecDepth 100000 in
set_option maxHeartbeats 4000000 in
theorem swaprange_any (cv : Value) (g rc n x y m : Nat) (f : Nat → Nat) (w : World) (hS : Hid (St w g n f w)) (h1 : x + m ≤ y) (h2 : y + m ≤ n) (hn : n < 4611686018427387904) :
    Calls Try.prog 50 #[.slice (some ⟨g, 0, none⟩) n rc, .int .i64 (x : Int), .int .i64 (y : Int), .int .i64 (m : Int), cv] w
      fun e w' => e = .returned (.tuple #[]) ∧ St w g n (swr f x y m) w' := by
  have HZ := Lib.hid (swr_zero f x y)
  go_enter Try.func50, Try.ntmps50
  go_wp2
  go_loopw [10] (fun vi wr => ∃ k : Nat, k ≤ m ∧ vi = .int .i64 k ∧ Hid (St w g n (swr f x y k) wr)) (fun vi _ => m - (intOf vi).toNat)
  case atStart => exact ⟨0, by omega, rfl, by rw [HZ.out]; exact hS⟩
  case round =>
    obtain ⟨k, hk, rfl, HSk⟩ := hrel
    by_cases hlt : k < m
    · have d1 : decide (k < m) = true := decide_eq_true hlt
      obtain ⟨iN, hiN⟩ : ∃ q, q = x + k := ⟨_, rfl⟩
      obtain ⟨jN, hjN⟩ : ∃ q, q = y + k := ⟨_, rfl⟩
      have hin : iN < n := by omega
      have hjn : jN < n := by omega
      have ea : ((x : Int) + (k : Int)).toNat = iN := by omega
      have pa : (0 : Int) ≤ (x : Int) + (k : Int) := by omega
      have ba : (x : Int) + (k : Int) < (n : Int) := by omega
      have ra : IntKind.i64.wrap ((x : Int) + (k : Int)) = (x : Int) + (k : Int) := by rw [IntKind.wrap_i64]; omega
      have ec : ((y : Int) + (k : Int)).toNat = jN := by omega
      have pc : (0 : Int) ≤ (y : Int) + (k : Int) := by omega
      have bc : (y : Int) + (k : Int) < (n : Int) := by omega
      have rc1 : IntKind.i64.wrap ((y : Int) + (k : Int)) = (y : Int) + (k : Int) := by rw [IntKind.wrap_i64]; omega
      have HW := Lib.hid (show swr f x y (k + 1) = swp (swr f x y k) iN jN from by rw [hiN, hjN]; exact swr_succ f x y k (by omega))
      have HiN := Lib.hid hin
      have HjN := Lib.hid hjn
      clear hiN hjN
      generalize swr f x y k = fj at *
      have k1 := HSk.out.row.cell hin
      have k2 := HSk.out.row.cell hjn
      have fa := HSk.out.row.frozen iN
      have fb := HSk.out.row.frozen jN
      have HS4 := Lib.hid (HSk.out.swap hin hjn)
      have HSet := Lib.hid (fun q => (HSk.out.row.set_ hin q).cell hjn)
      obtain ⟨p, ep⟩ : ∃ p, fj iN = p := ⟨_, rfl⟩
      obtain ⟨q, eq⟩ : ∃ q, fj jN = q := ⟨_, rfl⟩
      rw [ep] at k1 HS4
      rw [eq] at k2 HS4
      obtain ⟨u3, c3⟩ : ∃ u3, (wr.setCell ⟨g, iN, none⟩ (.int .i64 (q : Nat))).cell? ⟨g, jN, none⟩ = some u3 := ⟨_, HSet.out q⟩
      clear ep eq hin hjn HSet HSk
      go_wp2_with fail
      go_big_region
      clear k1 k2 c3 fa fb
      have HS5 : Hid (St w g n (swp fj iN jN) ((wr.setCell ⟨g, iN, none⟩ (.int .i64 (q : Nat))).setCell ⟨g, jN, none⟩ (.int .i64 (p : Nat))).drew) := Lib.hid (HS4.out.drewN 1)
      clear HS4
      go_wp2
      exact ⟨⟨k + 1, by omega, by go_num, by rw [HW.out]; exact HS5⟩, by simp [intOf]; omega⟩
    · obtain rfl : m = k := by omega
      go_wp2
      go_end0
      exact ⟨rfl, HSk.out⟩
theorem St.here {w0 w : World} {g n : Nat} {f : Nat → Nat} (h : St w0 g n f w) : St w g n f w := ⟨h.row, Keep.refl _ _, h.lies⟩
theorem St.join {w0 w w' : World} {g n : Nat} {f f' : Nat → Nat} (h : St w0 g n f w) (k : St w g n f' w') : St w0 g n f' w' := ⟨k.row, h.keep.trans k.keep, k.lies⟩
set_option maxRecDepth 100000 in
set_option maxHeartbeats 4000000 in
theorem rotate_any (cv : Value) (g rc n a m b : Nat) (f : Nat → Nat) (w : World) (hS : Hid (St w g n f w)) (h1 : a < m) (h2 : m < b) (h3 : b ≤ n) (hn : n < 4611686018427387904) :
    Calls Try.prog 49 #[.slice (some ⟨g, 0, none⟩) n rc, .int .i64 (a : Int), .int .i64 (m : Int), .int .i64 (b : Int), cv] w
      fun e w' => e = .returned (.tuple #[]) ∧ St w g n (rotF f a m b) w' := by
  have HW := Lib.hid (fun x y k fj W (hS : Hid (St W g n fj W)) h1 h2 => swaprange_any cv g rc n x y k fj W hS h1 h2 hn)
  have r1 : IntKind.i64.wrap ((m : Int) - (a : Int)) = (m : Int) - (a : Int) := by rw [IntKind.wrap_i64]; omega
  have r2 : IntKind.i64.wrap ((b : Int) - (m : Int)) = (b : Int) - (m : Int) := by rw [IntKind.wrap_i64]; omega
  go_enter Try.func49, Try.ntmps49
  go_wp2
  clear r1 r2
  go_loopw [10, 11] (fun vi vj wr => ∃ (i j : Nat) (fj : Nat → Nat), 0 < i ∧ 0 < j ∧ i ≤ m ∧ m + j ≤ b ∧ a ≤ m - i ∧ vi = .int .i64 i ∧ vj = .int .i64 j ∧ Hid (St w g n fj wr) ∧ Hid (rotF fj (m - i) m (m + j) = rotF f a m b)) (fun vi vj _ => (intOf vi).toNat + (intOf vj).toNat)
  case atStart => exact ⟨m - a, b - m, f, by omega, by omega, by omega, by omega, by omega, by rw [Int.ofNat_sub (by omega)], by rw [Int.ofNat_sub (by omega)], hS, Lib.hid (by rw [show m - (m - a) = a by omega, show m + (b - m) = b by omega])⟩
  case round =>
    obtain ⟨i, j, fj, i0, j0, him, hjb, hai, rfl, rfl, HSj, HR⟩ := hrel
    obtain ⟨p, hp⟩ : ∃ p : Nat, (m : Int) - (i : Int) = (p : Int) := ⟨m - i, by omega⟩
    have HPN := Lib.hid (show p = m - i from by omega)
    rcases Nat.lt_trichotomy i j with hij | hij | hij
    · have d1 : ((i : Int) != (j : Int)) = true := by rw [bne_iff_ne]; omega
      have d2 : decide ((i : Int) > (j : Int)) = false := decide_eq_false (by omega)
      have d3 : decide (j < i) = false := decide_eq_false (by omega)
      obtain ⟨q, hq⟩ : ∃ q : Nat, (j : Int) - (i : Int) = (q : Int) := ⟨j - i, by omega⟩
      obtain ⟨s, hs⟩ : ∃ s : Nat, (m : Int) + (j : Int) - (i : Int) = (s : Int) := ⟨m + j - i, by omega⟩
      have HQN := Lib.hid (show q = j - i from by omega)
      have HSN := Lib.hid (show s = m + j - i from by omega)
      have HG := Lib.hid (rot_right fj m i j him hij)
      rw [← HPN.out, ← HQN.out, ← HSN.out] at HG
      have b1 : (m : Int) + (j : Int) ≤ (n : Int) := by omega
      have HC := Lib.hid (HW.out p s i fj wr (Lib.hid HSj.out.here) (by omega) (by omega))
      go_wp2_with (go_at_call 50; refine HC.out.mono ?_; rintro e w2 ⟨rfl, hS2⟩; have HS2 := Lib.hid (HSj.out.join hS2); clear hS2)
      exact ⟨⟨i, q, _, i0, by omega, him, by omega, hai, rfl, rfl, HS2, Lib.hid (by rw [← HPN.out, HG.out, HPN.out]; exact HR.out)⟩, by simp [intOf]; omega⟩
    · subst hij
      have d1 : ((i : Int) != (i : Int)) = false := by simp
      have HG := Lib.hid (rot_even fj m i him)
      rw [← HPN.out] at HG
      have HC := Lib.hid (HW.out p m i fj wr (Lib.hid HSj.out.here) (by omega) (by omega))
      go_wp2_with (go_at_call 50; refine HC.out.mono ?_; rintro e w2 ⟨rfl, hS2⟩; have HS2 := Lib.hid (HSj.out.join hS2); clear hS2)
      go_end0
      exact ⟨rfl, by rw [← HR.out, ← HPN.out, ← HG.out]; exact HS2.out⟩
    · have d1 : ((i : Int) != (j : Int)) = true := by rw [bne_iff_ne]; omega
      have d2 : decide ((i : Int) > (j : Int)) = true := decide_eq_true (by omega)
      have d3 : decide (j < i) = true := decide_eq_true (by omega)
      obtain ⟨q, hq⟩ : ∃ q : Nat, (i : Int) - (j : Int) = (q : Int) := ⟨i - j, by omega⟩
      have HQN := Lib.hid (show q = i - j from by omega)
      have HG := Lib.hid (rot_left fj m i j him hij)
      rw [← HPN.out, ← HQN.out] at HG
      have HC := Lib.hid (HW.out p m j fj wr (Lib.hid HSj.out.here) (by omega) (by omega))
      go_wp2_with (go_at_call 50; refine HC.out.mono ?_; rintro e w2 ⟨rfl, hS2⟩; have HS2 := Lib.hid (HSj.out.join hS2); clear hS2)
      exact ⟨⟨q, j, _, by omega, j0, by omega, hjb, by omega, rfl, rfl, HS2, Lib.hid (by rw [HG.out, HPN.out]; exact HR.out)⟩, by simp [intOf]; omega⟩
end Go.Proofs.Ytckmmcklhdfjfaa
