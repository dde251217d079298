/-
  Greatest, the reference's.
-/
import Derived.Test.YtckmmcklhdfjfaaGaL3
namespace Go.Proofs.Ytckmmcklhdfjfaa
open Go.RowKit
set_option linter.unusedVariables false
section
variable {P : Program} {f : FuncId} {args : Array Value} {w : World} {a n : Nat} {v : Value}
theorem quiet_add_left {P : Program} {f : FuncId} {args : Array Value} {w : World} {a n : Nat} {v : Value}
    (h : Calls P f args (w.drewN (a + n)) fun e w' => e = .returned v ∧ w.drewN (a + n) = w') :
    Calls P f args (w.drewN (a + n)) fun e w'' => e = .returned v ∧ ∃ m, w'' = w.drewN (a + m) :=
  h.mono fun _ _ ⟨he, hm⟩ => ⟨he, n, hm.symm⟩
end
set_option maxRecDepth 100000 in
set_option maxHeartbeats 2000000 in
theorem rgreatest_any (A : Option Addr) (n cap : Nat) (l : List Nat) (w : World) (HR : Hid (Reads w w.heap.size 1 A n (l.map fv))) (hF : Hid (Fl l)) (hn : n ≤ 4611686018427387904) :
    Calls Try.prog 35 #[.slice A n cap] w (RetG l n w) := by
  go_enter Try.func35, Try.ntmps35
  go_wp2
  go_loopw [4, 5] (fun va vi wr => ∃ k d : Nat, k ≤ n ∧ vi = .int .i64 k ∧ va = .int .i64 (atI (gTo l k)) ∧ wr = w.drewN d) (fun _ vi _ => n - (intOf vi).toNat)
  case atStart => exact ⟨0, 0, by omega, rfl, rfl, rfl⟩
  case round =>
    obtain ⟨k, d, hk, rfl, rfl, rfl⟩ := hrel
    by_cases hlt : k < n
    · have d1 : decide (k < n) = true := decide_eq_true hlt
      obtain ⟨a1, rfl, hb1, hc1⟩ := HR.out.flt hlt
      have HS := Lib.hid (gTo_succ l k)
      have lx := hF.out.getD k
      obtain ⟨x, ex⟩ : ∃ x, l.getD k 0 = x := ⟨_, rfl⟩
      rw [ex] at hc1 HS lx
      have N1 := isnan_any x
      cases hx : nanb x with
      | true =>
        rw [hx] at N1
        have HE := Lib.hid (HS.out.trans (if_pos hx))
        generalize gTo l k = at_ at *
        clear ex hx HS
        go_wp2_with fail
        go_quiet ((go_at_call 16; exact quiet_add_left ((N1 _).mono fun e w' h => ⟨h.1, h.2.symm⟩)))
        go_wp2
        exact ⟨⟨k + 1, _, by omega, by go_num, (by rw [HE.out]; try rfl), by first | rfl | exact World.drewN_drewN ..⟩, by simp [intOf]; omega⟩
      | false =>
        rw [hx] at N1
        have HE0 := Lib.hid (HS.out.trans (if_neg (by rw [hx]; decide)))
        cases hg : gTo l k with
        | none =>
          have HE := Lib.hid (show gTo l (k + 1) = some k from by rw [HE0.out, hg])
          clear ex hx HS HE0 hg
          unfold atI
          go_wp2_with fail
          go_quiet ((go_at_call 16; exact quiet_add_left ((N1 _).mono fun e w' h => ⟨h.1, h.2.symm⟩)))
          go_wp2
          exact ⟨⟨k + 1, _, by omega, by go_num, (by rw [HE.out]; try rfl), by first | rfl | exact World.drewN_drewN ..⟩, by simp [intOf]; omega⟩
        | some i =>
          have hik := gTo_lt l k i hg
          have hin : i < n := by omega
          obtain ⟨a2, ea2, hb2, hc2⟩ := HR.out.flt hin
          obtain rfl := Option.some.inj ea2
          clear ea2
          have HE1 := Lib.hid (show gTo l (k + 1) = if compF x (l.getD i 0) > 0 then some k else some i from by rw [HE0.out, hg])
          have ly := hF.out.getD i
          have ny := gTo_num l k i hg
          have HD := Lib.hid (ahd_comp x (l.getD i 0) hx ny)
          obtain ⟨y, ey⟩ : ∃ y, l.getD i 0 = y := ⟨_, rfl⟩
          rw [ey] at hc2 HE1 ly HD ny
          have HC := Lib.hid (ahead_any y x · ly lx ny hx)
          rw [HD.out] at HC
          have hi0 : decide ((i : Int) < 0) = false := decide_eq_false (by omega)
          have hi1 : (0 : Int) ≤ (i : Int) := by omega
          have hi2 : (i : Int) < (n : Int) := by omega
          clear ex hx HS HE0 hg ey lx ly HD ny
          unfold atI
          generalize compF x y = cv at *
          by_cases hv : cv > 0
          · have hd : decide (cv > 0) = true := decide_eq_true hv
            rw [hd] at HC
            have HE := Lib.hid (HE1.out.trans (if_pos hv))
            clear HE1 hd hv
            go_wp2_with fail
            go_quiet (first
              | (go_at_call 16; exact quiet_add_left ((N1 _).mono fun e w' h => ⟨h.1, h.2.symm⟩))
              | (go_at_call 44; exact quiet_add_left ((HC.out _).mono fun e w' h => ⟨h.1, h.2.symm⟩)))
            go_wp2
            exact ⟨⟨k + 1, _, by omega, by go_num, (by rw [HE.out]; try rfl), by first | rfl | exact World.drewN_drewN ..⟩, by simp [intOf]; omega⟩
          · have hd : decide (cv > 0) = false := decide_eq_false hv
            rw [hd] at HC
            have HE := Lib.hid (HE1.out.trans (if_neg hv))
            clear HE1 hd hv
            go_wp2_with fail
            go_quiet (first
              | (go_at_call 16; exact quiet_add_left ((N1 _).mono fun e w' h => ⟨h.1, h.2.symm⟩))
              | (go_at_call 44; exact quiet_add_left ((HC.out _).mono fun e w' h => ⟨h.1, h.2.symm⟩)))
            go_wp2
            exact ⟨⟨k + 1, _, by omega, by go_num, (by rw [HE.out]; try rfl), by first | rfl | exact World.drewN_drewN ..⟩, by simp [intOf]; omega⟩
    · obtain rfl : n = k := by omega
      have d1 : decide (n < n) = false := decide_eq_false hlt
      have hat := gTo_lt l n
      cases hg : gTo l n with
      | none =>
        unfold atI
        go_wp2_with (go_at_call 26; refine (nan_any _).mono ?_; rintro e w' ⟨rfl, rfl⟩)
        go_ret2
        exact ⟨by rw [hg]; rfl, bel_drewN (Below.refl _ _) _⟩
      | some i =>
        have hin := hat i hg
        obtain ⟨a2, rfl, hb2, hc2⟩ := HR.out.flt hin
        have hi0 : decide ((i : Int) < 0) = false := decide_eq_false (by omega)
        have HG := Lib.hid hg
        clear hg hat
        unfold atI
        go_wp2_with fail
        go_quiet (fail)
        go_wp2
        go_ret2
        exact ⟨by rw [HG.out]; rfl, bel_drewN (bel_drewN (Below.refl _ _) _) _⟩
end Go.Proofs.Ytckmmcklhdfjfaa
