/-
  The walks of the sums and means. (printed by gen_gaw2.py)
-/
import Derived.Test.YtckmmcklhdfjfaaGaW1
namespace Go.Proofs.Ytckmmcklhdfjfaa
open Go.RowKit
set_option linter.unusedVariables false
def fv (x : Nat) : Value := .float .f64 x
def iv (x : Int) : Value := .int .i64 x
theorem Reads.flt {w : World} {B n : Nat} {A : Option Addr} {xs : List Nat} (h : Reads w B 1 A n (xs.map fv)) {k : Nat} (hk : k < n) :
    ∃ ad, A = some ad ∧ ad.block < B ∧ w.cell? (ad.add k) = some (.float .f64 (xs.getD k 0)) := by
  have hn : xs.length = n := by simpa using h.1
  obtain ⟨ad, u, e, hb, hu, hc⟩ := h.at_ hk
  refine ⟨ad, e, hb, ?_⟩
  rw [List.getElem?_map, List.getElem?_eq_getElem (by omega)] at hu
  rw [hc, ← hu, List.getD_eq_getElem?_getD, List.getElem?_eq_getElem (by omega)]
  rfl
theorem Reads.int_ {w : World} {B n : Nat} {A : Option Addr} {xs : List Int} (h : Reads w B 1 A n (xs.map iv)) {k : Nat} (hk : k < n) :
    ∃ ad, A = some ad ∧ ad.block < B ∧ w.cell? (ad.add k) = some (.int .i64 (xs.getD k 0)) := by
  have hn : xs.length = n := by simpa using h.1
  obtain ⟨ad, u, e, hb, hu, hc⟩ := h.at_ hk
  refine ⟨ad, e, hb, ?_⟩
  rw [List.getElem?_map, List.getElem?_eq_getElem (by omega)] at hu
  rw [hc, ← hu, List.getD_eq_getElem?_getD, List.getElem?_eq_getElem (by omega)]
  rfl
set_option maxRecDepth 100000 in
set_option maxHeartbeats 1000000 in
theorem sum_any (A : Option Addr) (n cap : Nat) (l : List Nat) (w : World) (HR : Hid (Reads w w.heap.size 1 A n (l.map fv))) (hl : Hid (l.length = n)) (hn : n ≤ 9223372036854775807) :
    Calls Try.prog 8 #[.slice A n cap] w (RetF (fsum l) w) := by
  go_enter Try.func8, Try.ntmps8
  go_wp2
  go_loopw [3, 5, 8] (fun vs vx vi wr => ∃ k d r : Nat, k ≤ n ∧ vi = .int .i64 k ∧ vs = .float .f64 r ∧ Hid (cls r = fsum (l.take k)) ∧ Hid (r < 2 ^ 64) ∧ wr = w.drewN d) (fun _ _ vi _ => n - (intOf vi).toNat)
  case atStart => exact ⟨0, 0, 0, by omega, rfl, rfl, Lib.hid rfl, Lib.hid (by decide), rfl⟩
  case round =>
    obtain ⟨k, d, r, hk, rfl, rfl, HS, HL, rfl⟩ := hrel
    by_cases hlt : k < n
    · have d1 : decide (k < n) = true := decide_eq_true hlt
      obtain ⟨a1, rfl, hb1, hc1⟩ := HR.out.flt hlt
      have HT := Lib.hid (fsum_snoc (l.take k) (l.getD k 0))
      rw [← take_snocD l k (by have := hl.out; omega)] at HT
      obtain ⟨x, ex⟩ : ∃ x, l.getD k 0 = x := ⟨_, rfl⟩
      rw [ex] at hc1 HT
      clear ex
      obtain ⟨r2, d2, hr2, hcr, hl2⟩ := run_float_any (P := Try.prog) .add (by simp) 23 r x (w.drewN d)
      have HC := Lib.hid hcr
      have HL2 := Lib.hid hl2
      clear hcr hl2
      go_wp2
      exact ⟨⟨k + 1, _, r2, by omega, by go_num, rfl, Lib.hid (by rw [HT.out, HC.out, HS.out]), HL2, by first | rfl | exact World.drewN_drewN ..⟩, by simp [intOf]; omega⟩
    · have d1 : decide (k < n) = false := decide_eq_false hlt
      go_wp2
      go_ret
      exact ⟨r, _, rfl, by rw [HS.out, List.take_of_length_le (by have := hl.out; omega)], HL.out, rfl⟩
set_option maxRecDepth 100000 in
set_option maxHeartbeats 1000000 in
theorem rsum_any (A : Option Addr) (n cap : Nat) (l : List Nat) (w : World) (HR : Hid (Reads w w.heap.size 1 A n (l.map fv))) (hl : Hid (l.length = n)) (hn : n ≤ 9223372036854775807) :
    Calls Try.prog 9 #[.slice A n cap] w (RetF (fsum l) w) := by
  go_enter Try.func9, Try.ntmps9
  go_wp2
  go_loopw [3, 4] (fun vs vi wr => ∃ k d r : Nat, k ≤ n ∧ vi = .int .i64 k ∧ vs = .float .f64 r ∧ Hid (cls r = fsum (l.take k)) ∧ Hid (r < 2 ^ 64) ∧ wr = w.drewN d) (fun _ vi _ => n - (intOf vi).toNat)
  case atStart => exact ⟨0, 0, 0, by omega, rfl, rfl, Lib.hid rfl, Lib.hid (by decide), rfl⟩
  case round =>
    obtain ⟨k, d, r, hk, rfl, rfl, HS, HL, rfl⟩ := hrel
    by_cases hlt : k < n
    · have d1 : decide (k < n) = true := decide_eq_true hlt
      obtain ⟨a1, rfl, hb1, hc1⟩ := HR.out.flt hlt
      have HT := Lib.hid (fsum_snoc (l.take k) (l.getD k 0))
      rw [← take_snocD l k (by have := hl.out; omega)] at HT
      obtain ⟨x, ex⟩ : ∃ x, l.getD k 0 = x := ⟨_, rfl⟩
      rw [ex] at hc1 HT
      clear ex
      obtain ⟨r2, d2, hr2, hcr, hl2⟩ := run_float_any (P := Try.prog) .add (by simp) 23 r x (w.drewN d)
      have HC := Lib.hid hcr
      have HL2 := Lib.hid hl2
      clear hcr hl2
      go_wp2
      exact ⟨⟨k + 1, _, r2, by omega, by go_num, rfl, Lib.hid (by rw [HT.out, HC.out, HS.out]), HL2, by first | rfl | exact World.drewN_drewN ..⟩, by simp [intOf]; omega⟩
    · have d1 : decide (k < n) = false := decide_eq_false hlt
      go_wp2
      go_ret
      exact ⟨r, _, rfl, by rw [HS.out, List.take_of_length_le (by have := hl.out; omega)], HL.out, rfl⟩
set_option maxRecDepth 100000 in
theorem mean_any (A : Option Addr) (n cap : Nat) (l : List Nat) (w : World) (HR : Hid (Reads w w.heap.size 1 A n (l.map fv))) (hl : Hid (l.length = n)) (hn : n ≤ 9223372036854775807) :
    Calls Try.prog 10 #[.slice A n cap] w (RetF (mean l) w) := by
  go_enter Try.func10, Try.ntmps10
  go_wp2_with fail
  refine (sum_any A n cap l _ HR hl hn).mono ?_
  rintro e w' ⟨r, d, rfl, hc, hr, rfl⟩
  have HC := Lib.hid hc
  clear hc
  go_wp2_with fail
  refine (ratio_any _ _ _).mono ?_
  rintro e w' ⟨r2, d2, rfl, hc2, hr2, rfl⟩
  have HC2 := Lib.hid hc2
  clear hc2
  go_wp2
  go_ret
  refine ⟨r2, _, rfl, ?_, hr2, by first | rfl | exact World.drewN_drewN ..⟩
  rw [HC2.out, HC.out]
  unfold mean fl
  rw [hl.out]
set_option maxRecDepth 100000 in
theorem rmean_any (A : Option Addr) (n cap : Nat) (l : List Nat) (w : World) (HR : Hid (Reads w w.heap.size 1 A n (l.map fv))) (hl : Hid (l.length = n)) (hn : n ≤ 9223372036854775807) :
    Calls Try.prog 11 #[.slice A n cap] w (RetF (mean l) w) := by
  go_enter Try.func11, Try.ntmps11
  go_wp2_with fail
  refine (rsum_any A n cap l _ HR hl hn).mono ?_
  rintro e w' ⟨r, d, rfl, hc, hr, rfl⟩
  have HC := Lib.hid hc
  clear hc
  go_wp2_with fail
  refine (rratio_any _ _ _).mono ?_
  rintro e w' ⟨r2, d2, rfl, hc2, hr2, rfl⟩
  have HC2 := Lib.hid hc2
  clear hc2
  go_wp2
  go_ret
  refine ⟨r2, _, rfl, ?_, hr2, by first | rfl | exact World.drewN_drewN ..⟩
  rw [HC2.out, HC.out]
  unfold mean fl
  rw [hl.out]
end Go.Proofs.Ytckmmcklhdfjfaa
