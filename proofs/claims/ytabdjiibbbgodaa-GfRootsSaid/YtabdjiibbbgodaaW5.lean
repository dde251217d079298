/-
  The walks of Eval (bytes that a slice reads as) and of heads.
-/
import Derived.Test.YtabdjiibbbgodaaW4
namespace Go.Proofs.Ytabdjiibbbgodaa
open Go.RowKit GfMath
/-- A polynomial at an element. -/
def evl (xs : List Nat) (x : Nat) : Nat := xs.foldl (fun r c => gmul r x ^^^ c) 0
theorem evl_snoc (xs : List Nat) (c x : Nat) : evl (xs ++ [c]) x = gmul (evl xs x) x ^^^ c := by simp [evl]
theorem evl_lt {xs : List Nat} (h : Byt xs) (x : Nat) : evl xs x < 256 := by
  unfold evl
  suffices H : ∀ (l : List Nat) (r : Nat), Byt l → r < 256 → l.foldl (fun r c => gmul r x ^^^ c) r < 256 from H xs 0 h (by omega)
  intro l
  induction l with
  | nil => intro r _ hr; exact hr
  | cons c l ih =>
    intro r hl hr
    exact ih _ (fun y hy => hl y (List.mem_cons_of_mem _ hy)) (xor_lt (gmul_lt hr) (hl c (List.mem_cons_self ..)))
theorem evl_take (xs : List Nat) (x k : Nat) (hk : k < xs.length) : evl (xs.take (k + 1)) x = gmul (evl (xs.take k) x) x ^^^ xs[k] := by
  rw [List.take_succ_eq_append_getElem hk, evl_snoc]
set_option maxRecDepth 100000 in
set_option maxHeartbeats 400000 in
theorem eval_any (A : Option Addr) (cap : Nat) (xs : List Nat) (x : Nat) (w : World) (hb : Byt xs) (hx : x < 256) (hr : Reads w w.heap.size 1 A xs.length (xs.map bv)) (hm : xs.length ≤ maxLen) :
    Calls Try.prog 14 #[.slice A xs.length cap, .int .u8 x] w fun e w' => e = .returned (.int .u8 (evl xs x)) ∧ w = w' := by
  unfold maxLen at hm
  go_enter Try.func14, Try.ntmps14
  go_wp2
  go_loop [5, 10] (fun r i => ∃ k : Nat, k ≤ xs.length ∧ i = .int .i64 k ∧ r = .int .u8 (evl (xs.take k) x)) (fun _ i => xs.length - (intOf i).toNat)
  case atStart => exact ⟨0, by omega, rfl, rfl⟩
  case round =>
    obtain ⟨k, hk, rfl, rfl⟩ := hrel
    have hl := evl_lt (hb.take k) x
    by_cases hlt : k < xs.length
    · obtain ⟨ad, rfl, hbl, hc⟩ := hr.byte hlt
      have hlk := hb.get hlt
      have hs := Lib.hid (evl_take xs x k hlt)
      have hxx := xor8 (gmul (evl (xs.take k) x) x) xs[k] (gmul_lt hl) hlk
      have H := Lib.hid hxx
      clear hxx
      go_wp2_with (go_at_call 9; refine (mul_any (evl (xs.take k) x) x hl hx _).mono ?_; rintro e w' ⟨rfl, rfl⟩)
      exact ⟨⟨k + 1, by omega, by go_num, by rw [H.out, hs.out]⟩, by simp [intOf]; omega⟩
    · obtain rfl : k = xs.length := by omega
      go_wp2
      go_ret
      exact ⟨rfl, rfl⟩
theorem Reads.lit (w : World) (t : TypeId) (cs : List Value) (size : Nat) (n : Nat) (h : cs.length = n * size) : Reads (w.alloc (.cells cs.toArray t)) (w.alloc (.cells cs.toArray t)).heap.size size (some ⟨w.heap.size, 0, none⟩) n cs := by
  refine ⟨h, fun _ => ⟨_, rfl, by simp, fun j u hu => ?_⟩⟩
  rw [show (⟨w.heap.size, 0, none⟩ : Addr).add j = ⟨w.heap.size, j, none⟩ from by unfold Addr.add; split <;> simp_all]
  rw [World.cell?_alloc_new]
  simpa using hu
theorem c_div : ((gdiv 1 2 : Nat) : Int) = 142 := by decide +kernel
theorem c_lg : ((lg 29 : Nat) : Int) = 8 := by decide +kernel
theorem c_m1 : ((gmul 2 128 : Nat) : Int) = 29 := by decide +kernel
theorem c_m2 : ((gmul 3 7 : Nat) : Int) = 9 := by decide +kernel
theorem c_e : ((E ((8 : Int) % 255).toNat : Nat) : Int) = 29 := by decide +kernel
theorem c_ev : ((evl [1, 0, 3] 2 : Nat) : Int) = 7 := by decide +kernel
set_option maxRecDepth 100000 in
set_option maxHeartbeats 1000000 in
theorem heads_any (w : World) : Calls Try.prog 11 #[] w fun e w' => e = .returned (.bool true) ∧ Below w.heap.size w w' := by
  have e1 := c_div
  have e2 := c_lg
  have e3 := c_m1
  have e4 := c_m2
  have e6 := c_ev
  go_enter Try.func11, Try.ntmps11
  go_wp2_with (go_at_call 10; refine (div_any 1 2 (by omega) (by omega) (by omega) _).mono ?_; rintro e w1 ⟨rfl, hb1⟩)
  refine (log_any 29 (by omega) (by omega) _).mono ?_
  rintro e w2 ⟨rfl, hb2⟩
  go_wp2_with (go_at_call 12; refine (log_zero _).mono ?_; rintro e w3 ⟨rfl, rfl⟩)
  refine (div_zero 1 _).mono ?_
  rintro e w3 ⟨rfl, rfl⟩
  go_wp2_with (fail)
  refine (mul_any 2 128 (by omega) (by omega) _).mono ?_
  rintro e w3 ⟨rfl, rfl⟩
  go_wp2_with (fail)
  refine (mul_any 3 7 (by omega) (by omega) _).mono ?_
  rintro e w4 ⟨rfl, rfl⟩
  go_wp2_with (fail)
  refine (exp_any 8 _).mono ?_
  rintro e w5 ⟨rfl, hb5⟩
  have e5 := c_e
  go_wp2_with (fail)
  have hr := Reads.lit w5 5 [bv 1, bv 0, bv 3] 1 3 rfl
  refine (eval_any _ 3 [1, 0, 3] 2 _ (by intro x hx; simp at hx; omega) (by omega) hr (by simp [maxLen])).mono ?_
  rintro e w6 ⟨rfl, rfl⟩
  go_wp2
  go_ret
  exact ⟨rfl, (bel_trans hb1 (bel_trans hb2 hb5)).alloc (Nat.le_trans hb1.size (Nat.le_trans hb2.size hb5.size)) _⟩
end Go.Proofs.Ytabdjiibbbgodaa
