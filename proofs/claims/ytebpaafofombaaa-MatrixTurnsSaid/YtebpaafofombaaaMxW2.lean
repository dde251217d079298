/-
  THE REFUSAL: what is deferred, both ways; needs; sized.
-/
import Derived.Test.YtebpaafofombaaaMxW1
import Derived.Defers
import Derived.Recover
namespace Go.Proofs.Ytebpaafofombaaa
open Go.RowKit GfMath
set_option linter.unusedVariables false
set_option maxRecDepth 100000 in
theorem refused_idle (p : Addr) (w : World) :
    CallsD Try.prog 31 #[.pointer (some p)] .returning w fun e u' w' => e = .returned (.tuple #[]) ∧ u' = .returning ∧ w' = w := by
  refine callsD_of_wpS Try.func31 rfl fun c₀ cs hu => ?_
  apply wpS_seq
  apply wpS_region
  simp [wpOpsS, go_sem, recoverD, hu, Try.ntmps31, Exit.thenS]
  refine wpS_of_wp ?_
  go_wp2
  cases c₀
  simp_all [bodyPostS, results, Try.results31]
set_option maxRecDepth 100000 in
theorem asserted (v : Value) (w : World) : (Instr.typeAssert (.iface 74 v) 20 74 true).run Try.prog w = .ok (.tuple #[v, .bool true]) w := by kernel_rfl
set_option maxRecDepth 100000 in
set_option maxHeartbeats 1000000 in
theorem refused_panicking (p : Addr) (x c : Int) (older : List PanicEntry) (w : World) (hc : w.cell? p = some (.int .i64 x)) (hz : w.frozen? p = false) :
    CallsD Try.prog 31 #[.pointer (some p)] (.panicking ({ v := .iface 74 (.int .i64 c), recovered := false } :: older)) w fun e u' w' =>
      e = .returned (.tuple #[]) ∧ u' = .panicking ({ v := .iface 74 (.int .i64 c), recovered := true } :: older) ∧ w' = w.setCell p (.int .i64 c) := by
  have hta := asserted
  refine callsD_of_wpS Try.func31 rfl fun c₀ cs hu => ?_
  apply wpS_seq
  apply wpS_region
  simp [wpOpsS, go_sem, recoverD, hu, Try.ntmps31, Exit.thenS]
  refine wpS_of_wp ?_
  go_wp2
  cases c₀
  simp_all [bodyPostS, results, Try.results31]
theorem needs_ok (w : World) : Calls Try.prog 32 #[.bool true] w fun e w' => e = .returned (.tuple #[]) ∧ w = w' := by
  go_enter Try.func32, Try.ntmps32
  go_wp2
  go_end0
  exact ⟨rfl, rfl⟩
theorem needs_bad (w : World) : Calls Try.prog 32 #[.bool false] w fun e w' => e = .panicked [{ v := .iface 74 (.int .i64 2), recovered := false }] ∧ w = w' := by
  go_enter Try.func32, Try.ntmps32
  go_wp2
  exact ⟨rfl, rfl, rfl⟩
/-- What sized lets through. -/
structure Good (ls : List (List Nat)) (n : Nat) : Prop where
  r0 : 0 < ls.length
  r1 : ls.length ≤ 255
  n0 : 0 < n
  n1 : n ≤ 255
  all : ∀ i, i < ls.length → (ls.getD i []).length = n
set_option maxRecDepth 100000 in
theorem sized_ok (A : Option Addr) (cap n : Nat) (ls : List (List Nat)) (w : World) (HM : Hid (InM w A cap ls)) (hg : Good ls n) :
    Calls Try.prog 33 #[.slice A ls.length cap] w fun e w' => e = .returned (.tuple #[.int .i64 ls.length, .int .i64 n]) ∧ w = w' := by
  obtain ⟨r0, r1, n0, n1, hall⟩ := hg
  have ALL := Lib.hid hall
  clear hall
  obtain ⟨ad, B, c, rfl, hc1, -⟩ := HM.out.row r0
  rw [ALL.out 0 r0, show ad.add 0 = ad from by simp [Addr.add]] at hc1
  have e1 : decide ((ls.length : Int) = 0) = false := decide_eq_false (by omega)
  have e2 : decide (255 < (ls.length : Int)) = false := decide_eq_false (by omega)
  have e3 : decide ((n : Int) = 0) = false := decide_eq_false (by omega)
  have e4 : decide (255 < (n : Int)) = false := decide_eq_false (by omega)
  obtain ⟨r, hr⟩ : ∃ r, ls.length = r := ⟨_, rfl⟩
  have hr' := Lib.hid hr
  rw [hr] at r0 r1 e1 e2 ⊢
  clear hr
  have e0 : ((r : Int) == 0) = false := by simp; omega
  go_enter Try.func33, Try.ntmps33
  go_wp2
  clear hc1
  go_loopw [6, 22] (fun _ vi wr => ∃ k : Nat, k ≤ r ∧ vi = .int .i64 k ∧ wr = w) (fun _ vi _ => r - (intOf vi).toNat)
  case atStart => exact ⟨0, by omega, rfl, rfl⟩
  case round =>
    obtain ⟨k, hk, rfl, rfl⟩ := hrel
    by_cases hlt : k < r
    · obtain ⟨ad', B, c, he, hc1, -⟩ := HM.out.row (i := k) (by rw [hr'.out]; exact hlt)
      rw [ALL.out k (by rw [hr'.out]; exact hlt)] at hc1
      cases he
      go_wp2
      exact ⟨⟨k + 1, by omega, by go_num, trivial⟩, by simp [intOf]; omega⟩
    · obtain rfl : k = r := by omega
      go_wp2
      go_ret2
      exact ⟨rfl, rfl⟩
def RefusesM (c : Int) (w : World) (e : Ending) (w' : World) : Prop := e = .panicked [{ v := .iface 74 (.int .i64 c), recovered := false }] ∧ w = w'
set_option maxRecDepth 100000 in
theorem sized_bad (A : Option Addr) (cap : Nat) (ls : List (List Nat)) (w : World) (HM : Hid (InM w A cap ls)) (hg : ¬ ∃ n, Good ls n) :
    Calls Try.prog 33 #[.slice A ls.length cap] w (RefusesM 20 w) := by
  have HG := Lib.hid hg
  clear hg
  obtain ⟨r, hr⟩ : ∃ r, ls.length = r := ⟨_, rfl⟩
  have hr' := Lib.hid hr
  rw [hr]
  clear hr
  have hcap := HM.out.1
  have hmax := HM.out.2.1
  rw [hr'.out] at hcap
  unfold maxLen at hmax
  by_cases r0 : r = 0
  · subst r0
    go_enter Try.func33, Try.ntmps33
    go_wp2
    exact ⟨rfl, rfl, rfl⟩
  have e0 : ((r : Int) == 0) = false := by simp; omega
  have e1 : decide ((r : Int) = 0) = false := decide_eq_false (by omega)
  by_cases r1 : 255 < r
  · have e2 : decide (255 < (r : Int)) = true := decide_eq_true (by omega)
    go_enter Try.func33, Try.ntmps33
    go_wp2
    exact ⟨rfl, rfl, rfl⟩
  have e2 : decide (255 < (r : Int)) = false := decide_eq_false (by omega)
  obtain ⟨ad, B, c, rfl, hc1, hbc, hcm, -⟩ := HM.out.row (i := 0) (by rw [hr'.out]; omega)
  unfold maxLen at hcm
  obtain ⟨n, hn⟩ : ∃ n, (ls.getD 0 []).length = n := ⟨_, rfl⟩
  have hn' := Lib.hid hn
  rw [hn, show ad.add 0 = ad from by simp [Addr.add]] at hc1
  rw [hn] at hbc
  clear hn
  go_enter Try.func33, Try.ntmps33
  go_wp2
  clear hc1
  go_loopw [6, 22] (fun _ vi wr => ∃ k : Nat, k ≤ r ∧ vi = .int .i64 k ∧ wr = w ∧ Hid (∀ i, i < k → (ls.getD i []).length = n ∧ 0 < n ∧ n ≤ 255)) (fun _ vi _ => r - (intOf vi).toNat)
  case atStart => exact ⟨0, by omega, rfl, (by first | rfl | trivial), Lib.hid (fun i hi => absurd hi (by omega))⟩
  case round =>
    obtain ⟨k, hk, rfl, rfl, hall⟩ := hrel
    by_cases hlt : k < r
    · obtain ⟨ad', B', c', he, hc1, hbc', hcm', -⟩ := HM.out.row (i := k) (by rw [hr'.out]; exact hlt)
      cases he
      obtain ⟨m, hm⟩ : ∃ m, (ls.getD k []).length = m := ⟨_, rfl⟩
      have hm' := Lib.hid hm
      rw [hm] at hc1 hbc'
      clear hm
      unfold maxLen at hcm'
      by_cases g : m = n ∧ 0 < n ∧ n ≤ 255
      · obtain ⟨rfl, g1, g2⟩ := g
        have e3 : decide ((m : Int) = 0) = false := decide_eq_false (by omega)
        have e4 : decide (255 < (m : Int)) = false := decide_eq_false (by omega)
        have H := Lib.hid (show ∀ i, i < k + 1 → (ls.getD i []).length = m ∧ 0 < m ∧ m ≤ 255 from fun i hi => by
          rcases Nat.lt_or_eq_of_le (Nat.lt_succ_iff.1 hi) with h | h
          · exact hall.out i h
          · rw [h]; exact ⟨hm'.out, g1, g2⟩)
        clear hall
        go_wp2
        exact ⟨⟨k + 1, by omega, by go_num, (by first | rfl | trivial), H⟩, by simp [intOf]; omega⟩
      · have aux : decide ((m : Int) = n) = false ∨ (decide ((m : Int) = n) = true ∧ decide ((n : Int) = 0) = true) ∨ (decide ((m : Int) = n) = true ∧ decide ((n : Int) = 0) = false ∧ decide (255 < (n : Int)) = true) := by
          simp only [decide_eq_true_eq, decide_eq_false_iff_not]; omega
        clear g hall
        rcases aux with e3 | ⟨e3, e4⟩ | ⟨e3, e4, e5⟩
        · have g3 : ¬ (m : Int) = n := of_decide_eq_false e3
          have f3 : ((m : Int) == n) = false := by simp; omega
          go_wp2
          exact ⟨rfl, rfl, rfl⟩
        · obtain rfl : m = n := by have := of_decide_eq_true e3; omega
          obtain rfl : m = 0 := by have := of_decide_eq_true e4; omega
          go_wp2
          exact ⟨rfl, rfl, rfl⟩
        · obtain rfl : m = n := by have := of_decide_eq_true e3; omega
          have g4 : ¬ (m : Int) = 0 := of_decide_eq_false e4
          have f4 : ((m : Int) == 0) = false := by simp; omega
          go_wp2
          exact ⟨rfl, rfl, rfl⟩
    · obtain rfl : k = r := by omega
      refine absurd ⟨n, ?_⟩ HG.out
      have := hall.out 0 (by omega)
      exact ⟨by rw [hr'.out]; omega, by rw [hr'.out]; omega, this.2.1, this.2.2, fun i hi => (hall.out i (by rw [hr'.out] at hi; exact hi)).1⟩
end Go.Proofs.Ytebpaafofombaaa
