/-
  The walks of the comparisons.
-/
import Derived.Test.YtckmmcklhdfjfaaGaW2
namespace Go.Proofs.Ytckmmcklhdfjfaa
open Go.RowKit
set_option linter.unusedVariables false
def ford (x y : Nat) : Option Ordering := FloatKind.f64.format.order x y
def cmpF (x y : Nat) : Int := if ford x y = some .lt then -1 else if ford x y = some .gt then 1 else 0
def ordI : Ordering → Int
  | .lt => -1
  | .eq => 0
  | .gt => 1
def sgF (x : Nat) : Int := if (ford x 0 == some .eq && sgn x) = true then -1 else 0
def cmpI (a b : Int) : Int := if a < b then -1 else if a > b then 1 else 0
def compF (x y : Nat) : Int := if nanb x = true then (if nanb y = true then 0 else 1) else if nanb y = true then -1 else if cmpF x y ≠ 0 then cmpF x y else cmpI (sgF x) (sgF y)
theorem isnan_c (x : Nat) (w : World) : Calls Try.prog 47 #[.float .f64 x] w fun e w' => e = .returned (.bool (nanb x)) ∧ w' = w := by
  go_enter Try.func47, Try.ntmps47
  go_wp2
  go_ret
  exact ⟨rfl, rfl⟩
theorem isnan_i (x : Int) (w : World) : Calls Try.prog 48 #[.int .i64 x] w fun e w' => e = .returned (.bool false) ∧ w' = w := by
  go_enter Try.func48, Try.ntmps48
  go_wp2
  go_ret
  exact ⟨by simp, rfl⟩
set_option maxRecDepth 100000 in
theorem compare_f (x y : Nat) (w : World) (hx : nanb x = false) (hy : nanb y = false) :
    Calls Try.prog 41 #[.float .f64 x, .float .f64 y] w fun e w' => e = .returned (.int .i64 (cmpF x y)) ∧ w' = w := by
  have N1 := fun W => hx ▸ isnan_c x W
  have N2 := fun W => hy ▸ isnan_c y W
  clear hx hy
  cases ho : FloatKind.f64.format.order x y with
  | none =>
    have e0 : cmpF x y = 0 := by unfold cmpF ford; rw [ho]; rfl
    rw [e0]; clear e0
    go_enter Try.func41, Try.ntmps41
    go_wp2_with (go_at_call 47; refine ((by first | exact N1 _ | exact N2 _) : Calls _ _ _ _ _).mono ?_; rintro e w' ⟨rfl, rfl⟩)
    go_ret
    exact ⟨rfl, rfl⟩
  | some o =>
    have e0 : cmpF x y = ordI o := by unfold cmpF ford; rw [ho]; cases o <;> rfl
    rw [e0]; clear e0
    cases o <;>
    · go_enter Try.func41, Try.ntmps41
      go_wp2_with (go_at_call 47; refine ((by first | exact N1 _ | exact N2 _) : Calls _ _ _ _ _).mono ?_; rintro e w' ⟨rfl, rfl⟩)
      go_ret
      exact ⟨rfl, rfl⟩
set_option maxRecDepth 100000 in
theorem compare_i (x y : Int) (w : World) :
    Calls Try.prog 42 #[.int .i64 x, .int .i64 y] w fun e w' => e = .returned (.int .i64 (cmpI x y)) ∧ w' = w := by
  by_cases h1 : x < y
  · have d1 : decide (x < y) = true := decide_eq_true h1
    have e0 : cmpI x y = -1 := by unfold cmpI; rw [if_pos h1]
    rw [e0]; clear e0 h1
    go_enter Try.func42, Try.ntmps42
    go_wp2_with (go_at_call 48; refine (isnan_i _ _).mono ?_; rintro e w' ⟨rfl, rfl⟩)
    go_ret
    exact ⟨rfl, rfl⟩
  · have d1 : decide (x < y) = false := decide_eq_false h1
    by_cases h2 : x > y
    · have d2 : decide (y < x) = true := decide_eq_true h2
      have e0 : cmpI x y = 1 := by unfold cmpI; rw [if_neg h1, if_pos h2]
      rw [e0]; clear e0 h1 h2
      go_enter Try.func42, Try.ntmps42
      go_wp2_with (go_at_call 48; refine (isnan_i _ _).mono ?_; rintro e w' ⟨rfl, rfl⟩)
      go_ret
      exact ⟨rfl, rfl⟩
    · have d2 : decide (y < x) = false := decide_eq_false h2
      have e0 : cmpI x y = 0 := by unfold cmpI; rw [if_neg h1, if_neg h2]
      rw [e0]; clear e0 h1 h2
      go_enter Try.func42, Try.ntmps42
      go_wp2_with (go_at_call 48; refine (isnan_i _ _).mono ?_; rintro e w' ⟨rfl, rfl⟩)
      go_ret
      exact ⟨rfl, rfl⟩
theorem sign_any (x : Nat) (w : World) (hx : x < 2 ^ 64) : Calls Try.prog 43 #[.float .f64 x] w fun e w' => e = .returned (.int .i64 (sgF x)) ∧ w' = w := by
  have HS := Lib.hid (signbit_any x · hx)
  clear hx
  cases h1 : (FloatKind.f64.format.order x 0 == some .eq)
  · have e0 : sgF x = 0 := by unfold sgF ford; rw [h1]; rfl
    rw [e0]; clear e0
    go_enter Try.func43, Try.ntmps43
    go_wp2_with (go_at_call 30; refine (HS.out _).mono ?_; rintro e w' ⟨rfl, rfl⟩)
    go_ret
    exact ⟨rfl, rfl⟩
  · cases h2 : sgn x
    · have e0 : sgF x = 0 := by unfold sgF ford; rw [h1, h2]; rfl
      rw [e0]; clear e0
      go_enter Try.func43, Try.ntmps43
      go_wp2_with (go_at_call 30; refine (HS.out _).mono ?_; rintro e w' ⟨rfl, rfl⟩)
      go_ret
      exact ⟨rfl, rfl⟩
    · have e0 : sgF x = -1 := by unfold sgF ford; rw [h1, h2]; rfl
      rw [e0]; clear e0
      go_enter Try.func43, Try.ntmps43
      go_wp2_with (go_at_call 30; refine (HS.out _).mono ?_; rintro e w' ⟨rfl, rfl⟩)
      go_ret
      exact ⟨rfl, rfl⟩
theorem Reads.lit' (w : World) (t : TypeId) (cs : List Value) (size : Nat) (n : Nat) (h : cs.length = n * size) : Reads (w.alloc (.cells cs.toArray t)) (w.alloc (.cells cs.toArray t)).heap.size size (some ⟨w.heap.size, 0, none⟩) n cs := by
  rw [show (w.alloc (.cells cs.toArray t)).heap.size = w.heap.size + 1 from by simp]
  exact Reads.lit w t cs size n h
def orI : List Int → Int
  | [] => 0
  | x :: r => if x ≠ 0 then x else orI r
theorem orI_skip : ∀ (l : List Int) (k : Nat), (∀ i, i < k → l.getD i 0 = 0) → orI (l.drop k) = orI l
  | [], k, _ => by simp
  | x :: r, 0, _ => rfl
  | x :: r, k + 1, h => by
    have h0 : x = 0 := h 0 (by omega)
    show orI (r.drop k) = _
    rw [orI_skip r k fun i hi => h (i + 1) (by omega)]
    unfold orI
    rw [if_neg (by rw [h0]; simp)]
    cases r <;> rfl
theorem orI_at (l : List Int) (k : Nat) (hk : k < l.length) (h0 : ∀ i, i < k → l.getD i 0 = 0) (h : l.getD k 0 ≠ 0) : orI l = l.getD k 0 := by
  rw [← orI_skip l k h0, List.drop_eq_getElem_cons hk]
  rw [List.getD_eq_getElem?_getD, List.getElem?_eq_getElem hk] at h ⊢
  have h' : l[k] ≠ 0 := h
  unfold orI
  rw [if_pos h']; rfl
theorem orI_none (l : List Int) (h0 : ∀ i, i < l.length → l.getD i 0 = 0) : orI l = 0 := by
  rw [← orI_skip l l.length h0, List.drop_length]; rfl
set_option maxRecDepth 100000 in
set_option maxHeartbeats 1000000 in
theorem or_any (A : Option Addr) (n cap : Nat) (l : List Int) (w : World) (HR : Hid (Reads w w.heap.size 1 A n (l.map iv))) (hl : Hid (l.length = n)) (hn : n ≤ 9223372036854775807) :
    Calls Try.prog 40 #[.slice A n cap] w fun e w' => e = .returned (.int .i64 (orI l)) ∧ w' = w := by
  go_enter Try.func40, Try.ntmps40
  go_wp2
  go_loop [5, 8] (fun vx vi => ∃ k : Nat, k ≤ n ∧ vi = .int .i64 k ∧ Hid (∀ i, i < k → l.getD i 0 = 0)) (fun _ vi => n - (intOf vi).toNat)
  case atStart => exact ⟨0, by omega, rfl, Lib.hid fun i hi => absurd hi (by omega)⟩
  case round =>
    obtain ⟨k, hk, rfl, H0⟩ := hrel
    by_cases hlt : k < n
    · have d1 : decide (k < n) = true := decide_eq_true hlt
      obtain ⟨a1, rfl, hb1, hc1⟩ := HR.out.int_ hlt
      obtain ⟨x, ex⟩ : ∃ x, l.getD k 0 = x := ⟨_, rfl⟩
      rw [ex] at hc1
      by_cases hx : x = 0
      · subst hx
        have H1 := Lib.hid (show ∀ i, i < k + 1 → l.getD i 0 = 0 from fun i hi => by
          rcases Nat.lt_or_ge i k with h | h
          · exact H0.out i h
          · rw [show i = k by omega]; exact ex)
        clear ex
        go_wp2
        exact ⟨⟨k + 1, by omega, by go_num, H1⟩, by simp [intOf]; omega⟩
      · have hb : (x == 0) = false := by rw [beq_eq_false_iff_ne]; exact hx
        have HE := Lib.hid (orI_at l k (by have := hl.out; omega) H0.out (by rw [ex]; exact hx))
        have EX := Lib.hid ex
        clear ex
        go_wp2
        go_ret
        exact ⟨ret_int (by rw [HE.out, EX.out]), rfl⟩
    · have d1 : decide (k < n) = false := decide_eq_false hlt
      have HE := Lib.hid (orI_none l fun i hi => H0.out i (by have := hl.out; omega))
      go_wp2
      go_ret
      exact ⟨ret_int (by rw [HE.out]), rfl⟩
set_option maxRecDepth 100000 in
set_option maxHeartbeats 1000000 in
theorem compare_any (x y : Nat) (w : World) (hx : x < 2 ^ 64) (hy : y < 2 ^ 64) :
    Calls Try.prog 34 #[.float .f64 x, .float .f64 y] w fun e w' => e = .returned (.int .i64 (compF x y)) ∧ Below w.heap.size w w' := by
  have N1 := isnan_any x
  have N2 := isnan_any y
  cases h1 : nanb x <;> cases h2 : nanb y
  all_goals rw [h1] at N1
  all_goals rw [h2] at N2
  · have HF := Lib.hid (compare_f x y · h1 h2)
    have HX := Lib.hid (sign_any x · hx)
    have HY := Lib.hid (sign_any y · hy)
    have E0 := Lib.hid (show compF x y = orI [cmpF x y, cmpI (sgF x) (sgF y)] from by
      unfold compF
      rw [h1, h2, if_neg (by decide), if_neg (by decide)]
      simp only [orI]
      split
      · rfl
      · split
        · rfl
        · rename_i h; simpa using h)
    clear h1 h2 hx hy
    go_enter Try.func34, Try.ntmps34
    go_wp2_with (first
      | (go_at_call 16; refine ((by first | exact N1 _ | exact N2 _) : Calls _ _ _ _ _).mono ?_; rintro e w' ⟨rfl, rfl⟩)
      | (go_at_call 41; refine (HF.out _).mono ?_; rintro e w' ⟨rfl, rfl⟩)
      | (go_at_call 43; refine ((by first | exact HX.out _ | exact HY.out _) : Calls _ _ _ _ _).mono ?_; rintro e w' ⟨rfl, rfl⟩)
      | (go_at_call 42; refine (compare_i _ _ _).mono ?_; rintro e w' ⟨rfl, rfl⟩)
      | (go_at_call 40; go_loud (refine (or_any _ 2 2 [cmpF x y, cmpI (sgF x) (sgF y)] _ (Lib.hid (Reads.lit' _ _ [.int .i64 (cmpF x y), .int .i64 (cmpI (sgF x) (sgF y))] 1 2 rfl)) (Lib.hid rfl) (by decide)).mono ?_; rintro e w' ⟨rfl, rfl⟩)))
    go_ret
    exact ⟨ret_int (by rw [E0.out]), (Below.refl _ _).alloc (Nat.le_refl _) _⟩
  · have e0 : compF x y = -1 := by unfold compF; rw [h1, h2]; rfl
    rw [e0]; clear e0 h1 h2
    go_enter Try.func34, Try.ntmps34
    go_wp2_with (go_at_call 16; refine ((by first | exact N1 _ | exact N2 _) : Calls _ _ _ _ _).mono ?_; rintro e w' ⟨rfl, rfl⟩)
    go_ret
    exact ⟨rfl, Below.refl _ _⟩
  · have e0 : compF x y = 1 := by unfold compF; rw [h1, h2]; rfl
    rw [e0]; clear e0 h1 h2
    go_enter Try.func34, Try.ntmps34
    go_wp2_with (go_at_call 16; refine ((by first | exact N1 _ | exact N2 _) : Calls _ _ _ _ _).mono ?_; rintro e w' ⟨rfl, rfl⟩)
    go_ret
    exact ⟨rfl, Below.refl _ _⟩
  · have e0 : compF x y = 0 := by unfold compF; rw [h1, h2]; rfl
    rw [e0]; clear e0 h1 h2
    go_enter Try.func34, Try.ntmps34
    go_wp2_with (go_at_call 16; refine ((by first | exact N1 _ | exact N2 _) : Calls _ _ _ _ _).mono ?_; rintro e w' ⟨rfl, rfl⟩)
    go_ret
    exact ⟨rfl, Below.refl _ _⟩
end Go.Proofs.Ytckmmcklhdfjfaa
