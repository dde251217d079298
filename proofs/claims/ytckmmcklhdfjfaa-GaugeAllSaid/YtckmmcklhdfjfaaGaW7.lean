/-
  Greatest, the program's.
-/
import Derived.Test.YtckmmcklhdfjfaaGaW6
namespace Go.Proofs.Ytckmmcklhdfjfaa
open Go.RowKit
set_option linter.unusedVariables false
def gTo (l : List Nat) : Nat → Option Nat
  | 0 => none
  | k + 1 => if nanb (l.getD k 0) = true then gTo l k else match gTo l k with
    | none => some k
    | some i => if compF (l.getD k 0) (l.getD i 0) > 0 then some k else some i
theorem gTo_succ (l : List Nat) (k : Nat) : gTo l (k + 1) = if nanb (l.getD k 0) = true then gTo l k else match gTo l k with
    | none => some k
    | some i => if compF (l.getD k 0) (l.getD i 0) > 0 then some k else some i := rfl
theorem gTo_lt (l : List Nat) : ∀ k i, gTo l k = some i → i < k
  | 0, i, h => by cases h
  | k + 1, i, h => by
    unfold gTo at h
    split at h
    · exact Nat.lt_succ_of_lt (gTo_lt l k i h)
    · split at h
      · cases h; omega
      · rename_i j hj
        have := gTo_lt l k j hj
        split at h <;> (cases h; omega)
def atI : Option Nat → Int
  | none => -1
  | some i => i
def atV (l : List Nat) : Option Nat → Nat
  | none => 9221120237041090561
  | some i => l.getD i 0
def RetG (l : List Nat) (n : Nat) (w : World) (e : Ending) (w' : World) : Prop := e = .returned (.tuple #[.int .i64 (atI (gTo l n)), .float .f64 (atV l (gTo l n))]) ∧ Below w.heap.size w w'
set_option maxRecDepth 100000 in
set_option maxHeartbeats 2000000 in
theorem greatest_any (A : Option Addr) (n cap : Nat) (l : List Nat) (w : World) (HR : Hid (Reads w w.heap.size 1 A n (l.map fv))) (hF : Hid (Fl l)) (hn : n ≤ 4611686018427387904) :
    Calls Try.prog 27 #[.slice A n cap] w (RetG l n w) := by
  go_enter Try.func27, Try.ntmps27
  go_wp2
  go_loopw [4, 5, 6, 9] (fun va _ _ vi wr => ∃ k : Nat, k ≤ n ∧ vi = .int .i64 k ∧ va = .int .i64 (atI (gTo l k)) ∧ Hid (Below w.heap.size w wr)) (fun _ _ _ vi _ => n - (intOf vi).toNat)
  case atStart => exact ⟨0, by omega, rfl, rfl, Lib.hid (Below.refl _ _)⟩
  case round =>
    obtain ⟨k, hk, rfl, rfl, HB⟩ := hrel
    by_cases hlt : k < n
    · have d1 : decide (k < n) = true := decide_eq_true hlt
      obtain ⟨a1, rfl, hb1, hc1⟩ := (HR.out.below HB.out).flt hlt
      have HS := Lib.hid (gTo_succ l k)
      have lx := hF.out.getD k
      obtain ⟨x, ex⟩ : ∃ x, l.getD k 0 = x := ⟨_, rfl⟩
      rw [ex] at hc1 HS lx
      have N1 := isnan_any x
      cases hx : nanb x with
      | true =>
        rw [hx] at N1
        have HE := Lib.hid (HS.out.trans (if_pos hx))
        have hat := gTo_lt l k
        generalize gTo l k = at_ at *
        clear ex hx HS
        go_wp2_with (go_at_call 16; refine (N1 _).mono ?_; rintro e w' ⟨rfl, rfl⟩)
        exact ⟨⟨k + 1, by omega, by go_num, by rw [HE.out], HB⟩, by simp [intOf]; omega⟩
      | false =>
        rw [hx] at N1
        have HE0 := Lib.hid (HS.out.trans (if_neg (by rw [hx]; decide)))
        cases hg : gTo l k with
        | none =>
          have HE := Lib.hid (show gTo l (k + 1) = some k from by rw [HE0.out, hg])
          clear ex hx HS HE0 hg
          unfold atI
          go_wp2_with (go_at_call 16; refine (N1 _).mono ?_; rintro e w' ⟨rfl, rfl⟩)
          exact ⟨⟨k + 1, by omega, by go_num, (by rw [HE.out]; try rfl), HB⟩, by simp [intOf]; omega⟩
        | some i =>
          have hik := gTo_lt l k i hg
          have hin : i < n := by omega
          obtain ⟨a2, ea2, hb2, hc2⟩ := (HR.out.below HB.out).flt hin
          obtain rfl := Option.some.inj ea2
          clear ea2
          have HE1 := Lib.hid (show gTo l (k + 1) = if compF x (l.getD i 0) > 0 then some k else some i from by rw [HE0.out, hg])
          have ly := hF.out.getD i
          obtain ⟨y, ey⟩ : ∃ y, l.getD i 0 = y := ⟨_, rfl⟩
          rw [ey] at hc2 HE1 ly
          have HC := Lib.hid (compare_any x y · lx ly)
          have hi0 : decide ((i : Int) < 0) = false := decide_eq_false (by omega)
          have hi1 : (0 : Int) ≤ (i : Int) := by omega
          have hi2 : (i : Int) < (n : Int) := by omega
          clear ex hx HS HE0 hg ey lx ly
          unfold atI
          generalize compF x y = cv at *
          by_cases hv : cv > 0
          · have hd : decide (0 < cv) = true := decide_eq_true hv
            have HE := Lib.hid (HE1.out.trans (if_pos hv))
            clear HE1
            go_wp2_with (first
              | (go_at_call 16; refine (N1 _).mono ?_; rintro e w' ⟨rfl, rfl⟩)
              | (go_at_call 34; refine (HC.out _).mono ?_; rintro e w' ⟨rfl, hbw⟩; have HB2 := Lib.hid (HB.out.trans (hbw.mono HB.out.size)); clear hbw))
            exact ⟨⟨k + 1, by omega, by go_num, by rw [HE.out], HB2⟩, by simp [intOf]; omega⟩
          · have hd : decide (0 < cv) = false := decide_eq_false hv
            have HE := Lib.hid (HE1.out.trans (if_neg hv))
            clear HE1
            go_wp2_with (first
              | (go_at_call 16; refine (N1 _).mono ?_; rintro e w' ⟨rfl, rfl⟩)
              | (go_at_call 34; refine (HC.out _).mono ?_; rintro e w' ⟨rfl, hbw⟩; have HB2 := Lib.hid (HB.out.trans (hbw.mono HB.out.size)); clear hbw))
            exact ⟨⟨k + 1, by omega, by go_num, by rw [HE.out], HB2⟩, by simp [intOf]; omega⟩
    · obtain rfl : n = k := by omega
      have d1 : decide (n < n) = false := decide_eq_false hlt
      have hat := gTo_lt l n
      cases hg : gTo l n with
      | none =>
        unfold atI
        go_wp2_with (go_at_call 26; refine (nan_any _).mono ?_; rintro e w' ⟨rfl, rfl⟩)
        go_ret2
        exact ⟨by rw [hg]; rfl, HB.out⟩
      | some i =>
        have hin := hat i hg
        obtain ⟨a2, rfl, hb2, hc2⟩ := (HR.out.below HB.out).flt hin
        have hi0 : decide ((i : Int) < 0) = false := decide_eq_false (by omega)
        have HG := Lib.hid hg
        clear hg hat
        unfold atI
        go_wp2_with fail
        go_quiet (fail)
        go_wp2
        go_ret2
        exact ⟨by rw [HG.out]; rfl, bel_drewN HB.out _⟩
end Go.Proofs.Ytckmmcklhdfjfaa
