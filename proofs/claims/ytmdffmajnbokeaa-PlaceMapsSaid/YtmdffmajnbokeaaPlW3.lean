/-
  The walks of the reference's Moves and Ints, and of Group, the program's and the reference's.
-/
import Derived.Test.YtmdffmajnbokeaaPlW2
namespace Go.Proofs.Ytmdffmajnbokeaa
open Go.RowKit StrMath PlMath
set_option linter.unusedVariables false
set_option maxRecDepth 100000 in
set_option maxHeartbeats 1000000 in
theorem rmoves_any (A B : Option Addr) (n ca m cb : Nat) (a b : List Int) (w : World) (h1 : Reads w w.heap.size 1 A n (a.map iv)) (h2 : Reads w w.heap.size 1 B m (b.map iv)) (hn : n ≤ maxLen) (hm : m ≤ maxLen) :
    Calls Try.prog 15 #[.slice A n ca, .slice B m cb] w fun e w' => e = .returned (.int .i64 (nMoves a b : Nat)) ∧ ∃ d, w' = w.drewN d := by
  have hla : a.length = n := by simpa using h1.1
  have hlb : b.length = m := by simpa using h2.1
  unfold maxLen at hn hm
  have R1 := Lib.hid h1
  have R2 := Lib.hid h2
  obtain ⟨M, eM⟩ : ∃ M, max n m - min n m = M := ⟨_, rfl⟩
  have hM : M ≤ 9223372036854775807 ∧ M + min n m ≤ 9223372036854775807 := by omega
  have hM2 : max (n : Int) (m : Int) - min (n : Int) (m : Int) = (M : Int) := by omega
  have E0 : Hid (nMoves a b = M + cntTo a b (min n m)) := Lib.hid (by unfold nMoves; rw [hla, hlb, eM])
  have EM := Lib.hid eM
  clear h1 h2 hla hlb eM
  go_enter Try.func15, Try.ntmps15
  go_wp2
  clear hM2
  go_loopw [5, 6] (fun vc vi wr => ∃ k d : Nat, k ≤ n ∧ k ≤ m ∧ vi = .int .i64 k ∧ vc = .int .i64 ((M : Int) + (cntTo a b k : Nat)) ∧ wr = w.drewN d) (fun _ vi _ => min n m - (intOf vi).toNat)
  case atStart => exact ⟨0, 0, by omega, by omega, rfl, by simp [cntTo], rfl⟩
  case round =>
    obtain ⟨k, d, hk, hk', rfl, rfl, rfl⟩ := hrel
    have hc := cntTo_le a b k
    by_cases hlt : k < n
    · have d1 : decide (k < n) = true := decide_eq_true hlt
      by_cases hlt2 : k < m
      · have d2 : decide (k < m) = true := decide_eq_true hlt2
        obtain ⟨a1, rfl, hb1, hc1⟩ := R1.out.intD hlt
        obtain ⟨a2, rfl, hb2, hc2⟩ := R2.out.intD hlt2
        have hd : cntTo a b (k + 1) = cntTo a b k + if a.getD k 0 = b.getD k 0 then 0 else 1 := rfl
        obtain ⟨x, ex⟩ : ∃ x, a.getD k 0 = x := ⟨_, rfl⟩
        obtain ⟨y, ey⟩ : ∃ y, b.getD k 0 = y := ⟨_, rfl⟩
        rw [ex] at hc1 hd
        rw [ey] at hc2 hd
        clear ex ey
        generalize cntTo a b k = c at *
        by_cases hxy : x = y
        · rw [if_pos hxy] at hd
          have Q := Lib.hid hd
          have f1 : (x != y) = false := by simp [hxy]
          clear hd
          have HX := Lib.hid hxy
          clear hxy
          go_wp2
          go_quiet (fail)
          go_wp2
          exact ⟨⟨k + 1, _, by omega, by omega, by go_num, by rw [Q.out]; go_num, rfl⟩, by simp [intOf]; omega⟩
        · rw [if_neg hxy] at hd
          have Q := Lib.hid hd
          have f1 : (x != y) = true := by simp; exact hxy
          clear hd
          have HX := Lib.hid hxy
          clear hxy
          go_wp2
          go_quiet (fail)
          go_wp2
          exact ⟨⟨k + 1, _, by omega, by omega, by go_num, by rw [Q.out]; go_num, rfl⟩, by simp [intOf]; omega⟩
      · have d2 : decide (k < m) = false := decide_eq_false hlt2
        go_wp2
        go_ret
        exact ⟨ret_int (by rw [E0.out, show min n m = k from by omega]; omega), _, rfl⟩
    · have d1 : decide (k < n) = false := decide_eq_false hlt
      go_wp2
      go_ret
      exact ⟨ret_int (by rw [E0.out, show min n m = k from by omega]; omega), _, rfl⟩
theorem nMoves_same (a : List Int) : nMoves a a = 0 := by unfold nMoves; rw [cntTo_same]; omega
set_option maxRecDepth 100000 in
theorem rints_same (A B : Option Addr) (n ca m cb : Nat) (a : List Int) (w : World) (h1 : Reads w w.heap.size 1 A n (a.map iv)) (h2 : Reads w w.heap.size 1 B m (a.map iv)) (hn : n ≤ maxLen) :
    Calls Try.prog 13 #[.slice A n ca, .slice B m cb] w fun e w' => e = .returned (.bool true) ∧ ∃ d, w' = w.drewN d := by
  have hla : a.length = n := by simpa using h1.1
  have hlb : a.length = m := by simpa using h2.1
  obtain rfl : n = m := by omega
  have h0 := rmoves_any A B n ca n cb a a w h1 h2 hn hn
  rw [nMoves_same] at h0
  have H0 := Lib.hid h0
  unfold maxLen at hn
  clear h0 h1 h2 hla hlb
  go_enter Try.func13, Try.ntmps13
  go_wp2_with fail
  refine H0.out.mono ?_
  rintro e w' ⟨rfl, d, rfl⟩
  go_wp2
  go_ret
  exact ⟨rfl, _, rfl⟩
/-! ### Groups -/
theorem grp_eq (t g : Nat) (ht : t < 18446744073709551616) (h1 : 1 ≤ g) (h2 : g ≤ 64) : t % g < 64 := by have := Nat.mod_lt t (show 0 < g by omega); omega
theorem textN_lt (bs : List Nat) : textN bs < 18446744073709551616 := mixN_lt _
def groupN (s : ByteArray) (g : Int) : Int × Int := if g < 1 ∨ 64 < g then (0, 2) else (((textN (natsOf s) % g.toNat : Nat) : Int), 0)
set_option maxRecDepth 100000 in
theorem group_any (s : ByteArray) (g : Int) (w : World) (hs : s.size ≤ maxLen) :
    Calls Try.prog 11 #[.string s, .int .i64 g] w fun e w' => e = .returned (.tuple #[.int .i64 (groupN s g).1, .int .i64 (groupN s g).2]) ∧ Below w.heap.size w w' := by
  by_cases hb : g < 1 ∨ 64 < g
  · have e0 : groupN s g = (0, 2) := by unfold groupN; rw [if_pos hb]
    rw [e0]
    have aux : decide (g < 1) = true ∨ (decide (g < 1) = false ∧ decide (64 < g) = true) := by
      simp only [decide_eq_true_eq, decide_eq_false_iff_not]; omega
    clear hb e0
    rcases aux with d1 | ⟨d1, d2⟩
    all_goals
      go_enter Try.func11, Try.ntmps11
      go_wp2
      go_ret2
      exact ⟨rfl, Below.refl _ _⟩
  · obtain ⟨k, rfl⟩ : ∃ k : Nat, g = k := ⟨g.toNat, by omega⟩
    have e0 : groupN s (k : Int) = (((textN (natsOf s) % k : Nat) : Int), 0) := by unfold groupN; rw [if_neg hb]; rfl
    rw [e0]
    have d1 : decide ((k : Int) < 1) = false := decide_eq_false (by omega)
    have d2 : decide (64 < (k : Int)) = false := decide_eq_false (by omega)
    have d3 : decide (64 < k) = false := decide_eq_false (by omega)
    have hk : 1 ≤ k ∧ k ≤ 64 := by omega
    have hm := fun t (ht : t < 18446744073709551616) => grp_eq t k ht hk.1 hk.2
    have ht := textN_lt (natsOf s)
    have HT := Lib.hid (text_any s w hs)
    clear e0 hb
    generalize textN (natsOf s) = t at *
    have hmt := hm t ht
    clear hm
    go_enter Try.func11, Try.ntmps11
    go_wp2_with fail
    refine HT.out.mono ?_
    rintro e w2 ⟨rfl, hb⟩
    go_wp2
    go_ret2
    exact ⟨rfl, hb⟩
set_option maxRecDepth 100000 in
theorem rgroup_any (s : ByteArray) (g : Int) (w : World) (hs : s.size ≤ maxLen) :
    Calls Try.prog 12 #[.string s, .int .i64 g] w fun e w' => e = .returned (.tuple #[.int .i64 (groupN s g).1, .int .i64 (groupN s g).2]) ∧ w = w' := by
  by_cases hb : g < 1 ∨ 64 < g
  · have e0 : groupN s g = (0, 2) := by unfold groupN; rw [if_pos hb]
    rw [e0]
    have aux : decide (g < 1) = true ∨ (decide (g < 1) = false ∧ decide (64 < g) = true) := by
      simp only [decide_eq_true_eq, decide_eq_false_iff_not]; omega
    clear hb e0
    rcases aux with d1 | ⟨d1, d2⟩
    all_goals
      go_enter Try.func12, Try.ntmps12
      go_wp2
      go_ret2
      exact ⟨rfl, rfl⟩
  · obtain ⟨k, rfl⟩ : ∃ k : Nat, g = k := ⟨g.toNat, by omega⟩
    have e0 : groupN s (k : Int) = (((textN (natsOf s) % k : Nat) : Int), 0) := by unfold groupN; rw [if_neg hb]; rfl
    rw [e0]
    have d1 : decide ((k : Int) < 1) = false := decide_eq_false (by omega)
    have d2 : decide (64 < (k : Int)) = false := decide_eq_false (by omega)
    have d3 : decide (64 < k) = false := decide_eq_false (by omega)
    have hk : 1 ≤ k ∧ k ≤ 64 := by omega
    have hm := fun t (ht : t < 18446744073709551616) => grp_eq t k ht hk.1 hk.2
    have ht := textN_lt (natsOf s)
    have HT := Lib.hid (rtext_any s w hs)
    clear e0 hb
    generalize textN (natsOf s) = t at *
    have hmt := hm t ht
    clear hm
    go_enter Try.func12, Try.ntmps12
    go_wp2_with fail
    refine HT.out.mono ?_
    rintro e w2 ⟨rfl, rfl⟩
    go_wp2
    go_ret2
    exact ⟨rfl, rfl⟩
end Go.Proofs.Ytmdffmajnbokeaa
