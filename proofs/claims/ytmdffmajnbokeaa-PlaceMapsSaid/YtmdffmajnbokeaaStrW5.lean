/-
  The walks of the reference's choice of a straw, and of choices that may not be.
-/
import Derived.Test.YtmdffmajnbokeaaStrW4
namespace Go.Proofs.Ytmdffmajnbokeaa
open Go.RowKit StrMath
set_option linter.unusedVariables false
set_option maxRecDepth 100000 in
set_option maxHeartbeats 2000000 in
theorem rchoose_any (A B : Option Addr) (c1 c2 n m : Nat) (x r : Nat) (ids ws : List Int) (w : World) (hi : I64 ids) (hw : I64 ws) (h1 : Reads w w.heap.size 1 A n (ids.map iv)) (h2 : Reads w w.heap.size 1 B m (ws.map iv))
    (hx : x < 18446744073709551616) (hr : r < 18446744073709551616) (hn : n ≤ maxLen) (hm : n = m) :
    Calls Try.prog 27 #[.slice A n c1, .slice B m c2, .int .u64 x, .int .u64 r] w fun e w' => e = .returned (.tuple #[.int .i64 (pick ids ws x r n).1, .int .i64 0]) ∧ ∃ d, w' = w.drewN d := by
  subst hm
  unfold maxLen at hn
  have R1 := Lib.hid h1
  have R2 := Lib.hid h2
  clear h1 h2
  go_enter Try.func27, Try.ntmps27
  go_wp2
  go_loopw [10, 11, 12, 13] (fun vb vl vi _ wr => ∃ k d : Nat, ∃ l : Int, k ≤ n ∧ vi = .int .i64 k ∧ vb = .int .i64 (pick ids ws x r k).1 ∧ vl = .int .i64 l ∧ Hid (0 ≤ (pick ids ws x r k).1 → l = (pick ids ws x r k).2) ∧ wr = w.drewN d) (fun _ _ vi _ _ => n - (intOf vi).toNat)
  case atStart => exact ⟨0, 0, 0, by omega, rfl, rfl, rfl, Lib.hid (fun h => absurd (show (0 : Int) ≤ -1 from h) (by omega)), rfl⟩
  case round =>
    obtain ⟨k, d, l, hk, rfl, rfl, rfl, hl, rfl⟩ := hrel
    by_cases hlt : k < n
    · obtain ⟨a1, rfl, hb1, hc1⟩ := R1.out.intD hlt
      obtain ⟨a2, rfl, hb2, hc2⟩ := R2.out.intD hlt
      have p0 := pick_skip ids ws x r k
      have p1 := pick_take ids ws x r k
      have p2 := pick_stay ids ws x r k
      have ww := hw.wf k
      have e1 : cst ids ws x r k = cost (hashN x r (ids.getD k 0 % 18446744073709551616).toNat) (ws.getD k 0) := rfl
      obtain ⟨id, ei⟩ : ∃ id, ids.getD k 0 = id := ⟨_, rfl⟩
      obtain ⟨wt, ewt⟩ : ∃ wt, ws.getD k 0 = wt := ⟨_, rfl⟩
      rw [ei] at hc1 e1
      rw [ewt] at hc2 e1 p0 p1 p2 ww
      have hl := hl.out
      obtain ⟨pp, epp⟩ : ∃ pp, pick ids ws x r k = pp := ⟨_, rfl⟩
      rw [epp] at p0 p1 p2 hl ⊢
      obtain ⟨b, l'⟩ := pp
      simp only at p1 p2 hl
      have q1 := wrap_id id
      have hu : (id % 18446744073709551616).toNat < 18446744073709551616 := by omega
      obtain ⟨u, eu⟩ : ∃ u, (id % 18446744073709551616).toNat = u := ⟨_, rfl⟩
      rw [eu] at q1 hu e1
      have hH := hashN_lt x r u
      have hca := fun W => rhash_any x r u W hr hu
      obtain ⟨H, eH⟩ : ∃ H, hashN x r u = H := ⟨_, rfl⟩
      rw [eH] at e1 hH hca
      have hco := fun W => rcost_any H wt W hH ww
      have hcr := cost_rng H wt
      rw [e1] at p1 p2
      obtain ⟨c, ec⟩ : ∃ c, cost H wt = c := ⟨_, rfl⟩
      rw [ec] at hco hcr p1 p2
      have HC := Lib.hid hco
      have HA := Lib.hid hca
      by_cases hz : wt < 1
      · have E1 := Lib.hid (p0 hz)
        have HL := Lib.hid hl
        clear p0 p1 p2 e1 ec eH eu epp ewt ei hca hco hl
        have d1 : decide (0 < wt) = false := decide_eq_false (by omega)
        go_wp2
        go_quiet (first
          | (go_at_call 40; exact quiet_add_left (HA.out _))
          | (go_at_call 39; exact quiet_add_left (HC.out _)))
        go_wp2
        exact ⟨⟨k + 1, _, l, by omega, by go_num, by rw [E1.out], rfl, Lib.hid (by rw [E1.out]; exact HL.out), rfl⟩, by simp [intOf]; omega⟩
      · have d1 : decide (0 < wt) = true := decide_eq_true (by omega)
        by_cases hbb : b < 0
        · have d2 : decide (b < 0) = true := decide_eq_true hbb
          have E1 := Lib.hid (p1 hz (.inl hbb))
          clear p0 p1 p2 e1 ec eH eu epp ewt ei hca hco hl
          go_wp2
          go_quiet (first
            | (go_at_call 40; exact quiet_add_left (HA.out _))
            | (go_at_call 39; exact quiet_add_left (HC.out _)))
          go_wp2
          exact ⟨⟨k + 1, _, c, by omega, by go_num, by rw [E1.out], rfl, Lib.hid (by rw [E1.out]; exact fun _ => rfl), rfl⟩, by simp [intOf]; omega⟩
        · have d2 : decide (b < 0) = false := decide_eq_false hbb
          have hl := hl (by omega)
          subst hl
          by_cases hcl : c < l
          · have d3 : decide (c < l) = true := decide_eq_true hcl
            have E1 := Lib.hid (p1 hz (.inr hcl))
            clear p0 p1 p2 e1 ec eH eu epp ewt ei hca hco
            go_wp2
            go_quiet (first
              | (go_at_call 40; exact quiet_add_left (HA.out _))
              | (go_at_call 39; exact quiet_add_left (HC.out _)))
            go_wp2
            exact ⟨⟨k + 1, _, c, by omega, by go_num, by rw [E1.out], rfl, Lib.hid (by rw [E1.out]; exact fun _ => rfl), rfl⟩, by simp [intOf]; omega⟩
          · have d3 : decide (c < l) = false := decide_eq_false hcl
            have E1 := Lib.hid (p2 hz hbb hcl)
            clear p0 p1 p2 e1 ec eH eu epp ewt ei hca hco
            go_wp2
            go_quiet (first
              | (go_at_call 40; exact quiet_add_left (HA.out _))
              | (go_at_call 39; exact quiet_add_left (HC.out _)))
            go_wp2
            exact ⟨⟨k + 1, _, l, by omega, by go_num, by rw [E1.out], rfl, Lib.hid (by rw [E1.out]; exact fun _ => rfl), rfl⟩, by simp [intOf]; omega⟩
    · obtain rfl : k = n := by omega
      go_wp2
      go_ret2
      exact ⟨rfl, _, rfl⟩
set_option maxRecDepth 100000 in
theorem rchoose_bad (A B : Option Addr) (c1 c2 n m : Nat) (x r : Nat) (w : World) (hn : n ≤ maxLen) (hm : m ≤ maxLen) (h : n ≠ m) :
    Calls Try.prog 27 #[.slice A n c1, .slice B m c2, .int .u64 x, .int .u64 r] w fun e w' => e = .returned (.tuple #[.int .i64 0, .int .i64 2]) ∧ w = w' := by
  unfold maxLen at hn hm
  have d1 : ((n : Int) != (m : Int)) = true := by simp; omega
  have d2 : (n != m) = true := by simp; omega
  go_enter Try.func27, Try.ntmps27
  go_wp2
  go_ret2
  exact ⟨rfl, rfl⟩
end Go.Proofs.Ytmdffmajnbokeaa
