/-
  The reference's Same, of matrices.
-/
import Derived.Test.YtebpaafofombaaaMxW10
namespace Go.Proofs.Ytebpaafofombaaa
open Go.RowKit GfMath MxMath
set_option linter.unusedVariables false
theorem ret_bool {a b : Bool} (h : a = b) : Ending.returned (.bool a) = .returned (.bool b) := by rw [h]
theorem lists_differ {ls ks : List (List Nat)} {k : Nat} (h : ls.getD k [] ≠ ks.getD k []) : decide (ls = ks) = false := decide_eq_false fun e => h (by rw [e])
theorem lists_alike {ls ks : List (List Nat)} (hl : ls.length = ks.length) (h : ∀ i, i < ls.length → ls.getD i [] = ks.getD i []) : decide (ls = ks) = true := by
  refine decide_eq_true (List.ext_getElem? fun i => ?_)
  by_cases hi : i < ls.length
  · have := h i hi
    rw [List.getD_eq_getElem?_getD, List.getD_eq_getElem?_getD, List.getElem?_eq_getElem hi, List.getElem?_eq_getElem (by omega)] at this
    rw [List.getElem?_eq_getElem hi, List.getElem?_eq_getElem (by omega)]
    exact congrArg some this
  · rw [List.getElem?_eq_none (by omega), List.getElem?_eq_none (by omega)]
theorem InM.drewN {w : World} {A : Option Addr} {cap : Nat} {ls : List (List Nat)} (h : InM w A cap ls) (d : Nat) : InM (w.drewN d) A cap ls := h
set_option maxRecDepth 100000 in
set_option maxHeartbeats 1000000 in
theorem samem_any (A B : Option Addr) (ca cb n m : Nat) (ls ks : List (List Nat)) (w : World) (HA : Hid (InM w A ca ls)) (HB : Hid (InM w B cb ks)) (hl : ls.length = n) (hk : ks.length = m) :
    Calls Try.prog 15 #[.slice A n ca, .slice B m cb] w fun e w' => e = .returned (.bool (decide (ls = ks))) ∧ ∃ d, w' = w.drewN d := by
  have b1 := HA.out.1
  have b2 := HA.out.2.1
  have b3 := HB.out.1
  have b4 := HB.out.2.1
  rw [hl] at b1
  rw [hk] at b3
  unfold maxLen at b2 b4
  have HL := Lib.hid hl
  have HK := Lib.hid hk
  by_cases hnm : n = m
  · subst hnm
    clear hl hk
    go_enter Try.func15, Try.ntmps15
    go_wp2
    go_loopw [5] (fun vi wr => ∃ k d : Nat, k ≤ n ∧ vi = .int .i64 k ∧ wr = w.drewN d ∧ Hid (∀ i, i < k → ls.getD i [] = ks.getD i [])) (fun vi _ => n - (intOf vi).toNat)
    case atStart => exact ⟨0, 0, by omega, rfl, rfl, Lib.hid (fun i hi => absurd hi (by omega))⟩
    case round =>
      obtain ⟨k, d, hk, rfl, rfl, hall⟩ := hrel
      by_cases hlt : k < n
      · obtain ⟨ad, D, c, rfl, hc1, h1, h2, hr, hy⟩ := HA.out.row (i := k) (by rw [HL.out]; exact hlt)
        obtain ⟨bd, D', c', rfl, hc2, h3, h4, hr', hy'⟩ := HB.out.row (i := k) (by rw [HK.out]; exact hlt)
        by_cases e : ls.getD k [] = ks.getD k []
        · have H := Lib.hid (fun q : Nat => same_any D D' c c' _ _ _ _ (w.drewN (d + q)) hy hy' hr hr')
          rw [decide_eq_true e] at H
          have HN := Lib.hid (show ∀ i, i < k + 1 → ls.getD i [] = ks.getD i [] from fun i hi => by
            rcases Nat.lt_or_eq_of_le (Nat.lt_succ_iff.1 hi) with h | h
            · exact hall.out i h
            · rw [h]; exact e)
          clear hr hr' hall e hy hy'
          go_wp2
          go_quiet ((go_at_call 22; exact quiet_add_left (H.out _)))
          go_wp2
          exact ⟨⟨k + 1, _, by omega, by go_num, rfl, HN⟩, by simp [intOf]; omega⟩
        · have H := Lib.hid (fun q : Nat => same_any D D' c c' _ _ _ _ (w.drewN (d + q)) hy hy' hr hr')
          rw [decide_eq_false e] at H
          have HN := Lib.hid (lists_differ e)
          clear hr hr' hall e hy hy'
          go_wp2
          go_quiet ((go_at_call 22; exact quiet_add_left (H.out _)))
          go_wp2
          go_ret
          exact ⟨ret_bool HN.out.symm, _, World.drewN_drewN _ _ _⟩
      · obtain rfl : k = n := by omega
        have HN := Lib.hid (lists_alike (by rw [HL.out, HK.out]) (fun i hi => hall.out i (by rw [HL.out] at hi; exact hi)))
        clear hall
        go_wp2
        go_ret
        exact ⟨ret_bool HN.out.symm, _, rfl⟩
  · have e1 : ((n : Int) == m) = false := by simp; omega
    have HN := Lib.hid (decide_eq_false (show ¬ ls = ks from fun e => hnm (by rw [← hl, ← hk, e])))
    clear hl hk
    go_enter Try.func15, Try.ntmps15
    go_wp2
    go_ret
    exact ⟨ret_bool HN.out.symm, 0, rfl⟩
end Go.Proofs.Ytebpaafofombaaa
