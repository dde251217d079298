/-
  What must come at any rate.
-/
import Derived.Test.YtckmmcklhdfjfaaGaW7
namespace Go.Proofs.Ytckmmcklhdfjfaa
open Go.RowKit
set_option linter.unusedVariables false
set_option maxRecDepth 100000 in
set_option maxHeartbeats 1000000 in
theorem moves_same (A B : Option Addr) (n ca cb : Nat) (a : List Int) (w : World) (R1 : Hid (Reads w w.heap.size 1 A n (a.map iv))) (R2 : Hid (Reads w w.heap.size 1 B n (a.map iv))) (hn : n ≤ 9223372036854775807) :
    Calls Try.prog 38 #[.slice A n ca, .slice B n cb] w fun e w' => e = .returned (.int .i64 0) ∧ ∃ d, w' = w.drewN d := by
  have hM2 : max (n : Int) (n : Int) - min (n : Int) (n : Int) = 0 := by omega
  go_enter Try.func38, Try.ntmps38
  go_wp2
  clear hM2
  go_loopw [5, 6] (fun vc vi wr => ∃ k d : Nat, k ≤ n ∧ vi = .int .i64 k ∧ vc = .int .i64 0 ∧ wr = w.drewN d) (fun _ vi _ => n - (intOf vi).toNat)
  case atStart => exact ⟨0, 0, by omega, rfl, rfl, rfl⟩
  case round =>
    obtain ⟨k, d, hk, rfl, rfl, rfl⟩ := hrel
    by_cases hlt : k < n
    · have d1 : decide (k < n) = true := decide_eq_true hlt
      obtain ⟨a1, rfl, hb1, hc1⟩ := R1.out.int_ hlt
      obtain ⟨a2, rfl, hb2, hc2⟩ := R2.out.int_ hlt
      obtain ⟨x, ex⟩ : ∃ x, a.getD k 0 = x := ⟨_, rfl⟩
      rw [ex] at hc1 hc2
      clear ex
      go_wp2
      go_quiet (fail)
      go_wp2
      exact ⟨⟨k + 1, _, by omega, by go_num, rfl, rfl⟩, by simp [intOf]; omega⟩
    · have d1 : decide (k < n) = false := decide_eq_false hlt
      go_wp2
      go_ret
      exact ⟨rfl, _, rfl⟩
set_option maxRecDepth 100000 in
theorem ints_same (A B : Option Addr) (n ca cb : Nat) (a : List Int) (w : World) (R1 : Hid (Reads w w.heap.size 1 A n (a.map iv))) (R2 : Hid (Reads w w.heap.size 1 B n (a.map iv))) (hn : n ≤ 9223372036854775807) :
    Calls Try.prog 31 #[.slice A n ca, .slice B n cb] w fun e w' => e = .returned (.bool true) ∧ Below w.heap.size w w' := by
  go_enter Try.func31, Try.ntmps31
  go_wp2_with (go_at_call 38; refine (moves_same A B n ca cb a _ R1 R2 hn).mono ?_; rintro e w1 ⟨rfl, d, rfl⟩)
  go_ret
  exact ⟨rfl, bel_drewN (Below.refl _ _) _⟩
def LH : List Nat := [0, 9223372036854775808, 9221120237041090561, 13830554455654793216]
def GH : List Nat := [4607182418800017408, 9218868437227405312]
theorem head_order : (List.range 4).map (fun i => ((insTo LH 0 3 id i : Nat) : Int)) = [3, 1, 0, 2] := by decide
theorem head_at : atI (gTo GH 2) = 1 := by decide
theorem head_val : atV GH (gTo GH 2) = 9218868437227405312 := by decide
theorem fl_LH : Fl LH := by unfold Fl LH; decide
theorem fl_GH : Fl GH := by unfold Fl GH; decide
theorem head_mean : mean [] = none := by decide
theorem head_inf : ratio (cls 4607182418800017408) (cls 0) = some 9218868437227405312 := by decide
theorem head_sign : ratio (cls 0) (cls 13830554455654793216) = some 9223372036854775808 := by decide
theorem cls_none {x : Nat} (h : cls x = none) : nanb x = true := by
  unfold cls at h
  cases e : nanb x
  · rw [e] at h; cases h
  · rfl
theorem cls_some {x y : Nat} (h : cls x = some y) : x = y := by
  unfold cls at h
  cases e : nanb x
  · rw [e] at h; exact Option.some.inj h
  · rw [e] at h; cases h
theorem RowF.reads {w : World} {g n : Nat} {f : Nat → Nat} (h : RowF w g n f) (l : List Int) (hl : (List.range n).map (fun i => ((f i : Nat) : Int)) = l) : Reads w w.heap.size 1 (some ⟨g, 0, none⟩) n (l.map iv) := by
  subst hl
  refine ⟨by simp, fun _ => ⟨_, rfl, h.lt, fun j u hu => ?_⟩⟩
  simp only [List.map_map, List.getElem?_map, Option.map_eq_some_iff] at hu
  obtain ⟨i, hi, rfl⟩ := hu
  obtain ⟨hj, rfl⟩ := List.getElem?_eq_some_iff.1 hi
  simp only [List.length_range] at hj
  simp only [List.getElem_range]
  have e : Addr.add ⟨g, 0, none⟩ j = ⟨g, j, none⟩ := by unfold Addr.add; split <;> simp_all
  rw [e]
  exact h.cell hj
set_option maxRecDepth 100000 in
set_option maxHeartbeats 4000000 in
theorem heads_any (w : World) : Calls Try.prog 14 #[] w fun e w' => e = .returned (.bool true) ∧ Below w.heap.size w w' := by
  go_enter Try.func14, Try.ntmps14
  go_wp2_with (first
    | (go_at_call 25; refine (copysign_zero _).mono ?_; rintro e w' ⟨rfl, rfl⟩)
    | (go_at_call 26; refine (nan_any _).mono ?_; rintro e w' ⟨rfl, rfl⟩)
    | (go_at_call 15; refine (order_small _ 4 4 LH _ (Lib.hid (Reads.lit' w' _ (LH.map fv) 1 4 rfl)) (Lib.hid fl_LH) (by decide) (by decide)).mono ?_; rintro e w1 ⟨g, rc, rfl, hrow, hb, hg⟩; have HR1 := Lib.hid (hrow.reads [3, 1, 0, 2] head_order); have HB1 : Hid (Below w'.heap.size w' w1) := Lib.hid (((Below.refl _ _).alloc (Nat.le_refl _) _).trans (hb.mono (by simp))); clear hrow hb hg)
    | (go_at_call 28; refine (inf_one _).mono ?_; rintro e w2 ⟨rfl, rfl⟩)
    | (go_at_call 27; refine (greatest_any _ 2 2 GH _ (Lib.hid (Reads.lit' w2 _ (GH.map fv) 1 2 rfl)) (Lib.hid fl_GH) (by decide)).mono ?_; rintro e w3 ⟨rfl, hb⟩; have HB3 : Hid (Below w2.heap.size w2 w3) := Lib.hid (((Below.refl _ _).alloc (Nat.le_refl _) _).trans (hb.mono (by simp))); rw [head_at, head_val]; clear hb)
    | (go_at_call 10; refine (mean_any none 0 0 [] _ (Lib.hid Reads.none_) (Lib.hid rfl) (by decide)).mono ?_; rintro e w4 ⟨r, d, rfl, hc, hr, rfl⟩; rw [head_mean] at hc; have hn := cls_none hc; clear hc)
    | (go_at_call 16; refine (isnan_any _ _).mono ?_; rintro e w5 ⟨rfl, rfl⟩)
    | (go_at_call 12; refine (ratio_any _ _ _).mono ?_; rintro e w6 ⟨r6, d6, rfl, hc, hr6, rfl⟩; first | (rw [head_inf] at hc; obtain rfl := cls_some hc) | (rw [head_sign] at hc; obtain rfl := cls_some hc))
    | (go_at_call 29; refine (isinf_inf _).mono ?_; rintro e w7 ⟨rfl, rfl⟩)
    | (go_at_call 30; refine (signbit_any _ _ (by decide)).mono ?_; rintro e w8 ⟨rfl, rfl⟩)
    | (go_at_call 31; go_loud (refine (ints_same _ _ 4 _ 4 [3, 1, 0, 2] _ (Lib.hid (by exact (((HR1.out.later HB3.out).drewN _).alloc (Nat.le_refl _) _).more (by simp))) (Lib.hid (by exact Reads.lit' _ _ _ 1 4 rfl)) (by decide)).mono ?_; rintro e w9 ⟨rfl, hb⟩; have HB9 := Lib.hid hb; clear hb)))
  go_ret
  refine ⟨rfl, ?_⟩
  have h3 : Below w'.heap.size w' w3 := HB1.out.trans (HB3.out.mono HB1.out.size)
  exact (bel_drewN h3 _).trans (((Below.refl _ _).alloc (Nat.le_refl _) _).trans (HB9.out.mono (by simp)) |>.mono h3.size)
end Go.Proofs.Ytckmmcklhdfjfaa
