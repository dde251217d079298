/-
  The library's merging in place: one element ahead of a row, one behind it. (printed by gen_gas4.py)
-/
import Derived.Test.YtckmmcklhdfjfaaGaS3
namespace Go.Proofs.Ytckmmcklhdfjfaa
open Go.RowKit
set_option linter.unusedVariables false
/-- The closure at two places of the row. -/
theorem St.cmp {w0 w : World} {A : Option Addr} {n cap : Nat} {l : List Nat} {B g : Nat} {f : Nat → Nat} (hF : Hid (Fl l)) (hC : Hid (ClIn w0 A n cap l B g)) (hS : St w0 g n f w) (hn : n < 4611686018427387904) {x y : Nat} (hx : x < n) (hy : y < n) :
    ∀ W, Below w.heap.size w W → Calls Try.prog 33 #[.int .i64 (f x : Nat), .int .i64 (f y : Nat), .pointer (some ⟨B, 0, none⟩)] W fun e w' => e = .returned (.int .i64 (cfl l (f x) (f y))) ∧ Below W.heap.size W w' :=
  fun W h => closure_any A n cap l B (f x) (f y) W (Lib.hid ((hC.out.keep hS.keep).rd.later h)) hF (by omega) (cell_later h (hC.out.keep hS.keep).bx) (hS.lies x hx) (hS.lies y hy)
set_option maxRecDepth 100000 in
set_option maxHeartbeats 4000000 in
theorem sym_first (A : Option Addr) (cap : Nat) (l : List Nat) (B : Nat) (g rc n a m b : Nat) (f : Nat → Nat) (w : World) (hF : Hid (Fl l)) (hC : Hid (ClIn w A n cap l B g)) (hS : Hid (St w g n f w)) (h1 : m = a + 1) (h2 : m < b) (h3 : b ≤ n) (hn : n < 4611686018427387904) :
    Calls Try.prog 46 #[.slice (some ⟨g, 0, none⟩) n rc, .int .i64 (a : Int), .int .i64 (m : Int), .int .i64 (b : Int), .func (.func 33) #[] #[.pointer (some ⟨B, 0, none⟩)]] w
      fun e w' => e = .returned (.tuple #[]) ∧ ∃ f', Merged l f f' a m b ∧ St w g n f' w' := by
  have r1 : (m : Int) - (a : Int) = 1 := by omega
  have HM := Lib.hid h1
  have ham : a < m := by omega
  have HZ := Lib.hid (rot_none_right f a m)
  clear h1
  go_enter Try.func46, Try.ntmps46
  go_wp2
  clear r1
  go_loopw [10, 11, 12] (fun vi vj _ wr => ∃ (i j : Nat), m ≤ i ∧ i ≤ j ∧ j ≤ b ∧ vi = .int .i64 i ∧ vj = .int .i64 j ∧ Hid (i = m ∨ cfl l (f (i - 1)) (f a) < 0) ∧ Hid (j = b ∨ 0 ≤ cfl l (f j) (f a)) ∧ Hid (St w g n f wr)) (fun vi vj _ _ => (intOf vj).toNat - (intOf vi).toNat)
  case atStart => exact ⟨m, b, by omega, by omega, by omega, rfl, rfl, Lib.hid (.inl rfl), Lib.hid (.inl rfl), hS⟩
  case round =>
    obtain ⟨i, j, hmi, hij, hjb, rfl, rfl, HL, HR, HSj⟩ := hrel
    by_cases hlt : i < j
    · have d1 : decide (i < j) = true := decide_eq_true hlt
      have b1 : (i : Int) + (j : Int) ≤ 9223372036854775807 := by omega
      obtain ⟨h, hh⟩ : ∃ h : Nat, ((i : Int) + (j : Int)) / 2 = (h : Int) := ⟨(i + j) / 2, by omega⟩
      have hh1 : i ≤ h := by omega
      have hh2 : h < j := by omega
      have c1 := HSj.out.row.cell (i := h) (by omega)
      have c2 := HSj.out.row.cell (i := a) (by omega)
      have HCL := Lib.hid (HSj.out.cmp hF hC hn (x := h) (y := a) (by omega) (by omega))
      have pX : (0 : Int) ≤ (h : Int) := by omega
      have qX : (h : Int) < (n : Int) := by omega
      have pY : (0 : Int) ≤ (a : Int) := by omega
      have qY : (a : Int) < (n : Int) := by omega
      obtain ⟨x, ex⟩ : ∃ x, f h = x := ⟨_, rfl⟩
      obtain ⟨y, ey⟩ : ∃ y, f a = y := ⟨_, rfl⟩
      rw [ex, ey] at HCL
      rw [ex] at c1
      rw [ey] at c2
      have HX := Lib.hid ex
      have HY := Lib.hid ey
      clear ex ey
      obtain ⟨cv, ecv⟩ : ∃ cv, cfl l x y = cv := ⟨_, rfl⟩
      rw [ecv] at HCL
      have HCV := Lib.hid ecv
      clear ecv
      have hdc : decide (cv < 0) = true ∨ decide (cv < 0) = false := by cases decide (cv < 0) <;> simp
      rcases hdc with hd | hd
      · have hv : cv < 0 := of_decide_eq_true hd
        go_wp2_with fail
        go_region_held3 (fun w' => w'.cell? ⟨g, h, none⟩ = some (.int .i64 (x : Int)) ∧ w'.cell? ⟨g, a, none⟩ = some (.int .i64 (y : Int))) (first | exact ⟨c1, c2⟩ | exact ⟨k1, k2⟩ | fail) (first
          | (go_at_call 33; refine (HCL.out _ (by first | exact Below.refl _ _ | exact ⟨rfl, rfl, rfl, Nat.le_refl _, fun _ _ => rfl⟩)).mono ?_; rintro e w3 ⟨rfl, hb3⟩; have k1 := cell_later hb3 c1; have k2 := cell_later hb3 c2))
        have HS3 := Lib.hid (HSj.out.below (undrew hb3))
        clear hb3 c1 c2 k1 k2 HCL HSj
        go_wp2
        exact ⟨⟨h + 1, j, by omega, by omega, hjb, by go_num, rfl, Lib.hid (.inr (by rw [show h + 1 - 1 = h by omega, HX.out, HY.out, HCV.out]; exact hv)), HR, HS3⟩, by simp [intOf]; omega⟩
      · have hv : 0 ≤ cv := Int.not_lt.1 (of_decide_eq_false hd)
        go_wp2_with fail
        go_region_held3 (fun w' => w'.cell? ⟨g, h, none⟩ = some (.int .i64 (x : Int)) ∧ w'.cell? ⟨g, a, none⟩ = some (.int .i64 (y : Int))) (first | exact ⟨c1, c2⟩ | exact ⟨k1, k2⟩ | fail) (first
          | (go_at_call 33; refine (HCL.out _ (by first | exact Below.refl _ _ | exact ⟨rfl, rfl, rfl, Nat.le_refl _, fun _ _ => rfl⟩)).mono ?_; rintro e w3 ⟨rfl, hb3⟩; have k1 := cell_later hb3 c1; have k2 := cell_later hb3 c2))
        have HS3 := Lib.hid (HSj.out.below (undrew hb3))
        clear hb3 c1 c2 k1 k2 HCL HSj
        go_wp2
        exact ⟨⟨i, h, hmi, by omega, by omega, rfl, rfl, HL, Lib.hid (.inr (by rw [HX.out, HY.out, HCV.out]; exact hv)), HS3⟩, by simp [intOf]; omega⟩
    · obtain rfl : i = j := by omega
      have d1 : decide (i < i) = false := decide_eq_false hlt
      obtain ⟨q, hq⟩ : ∃ q : Nat, (i : Int) - 1 = (q : Int) := ⟨i - 1, by omega⟩
      have HQ := Lib.hid (show q + 1 = i from by omega)
      have haq : a ≤ q := by omega
      go_wp2
      clear hq
      go_loopw [13] (fun vk wr => ∃ k : Nat, a ≤ k ∧ k ≤ q ∧ vk = .int .i64 k ∧ Hid (St w g n (rotF f a m (k + 1)) wr)) (fun vk _ => q - (intOf vk).toNat)
      case atStart => exact ⟨a, by omega, haq, rfl, by rw [← HM.out, HZ.out]; exact HSj⟩
      case round =>
        obtain ⟨k, hak, hkq, rfl, HSk⟩ := hrel
        obtain ⟨q', hq⟩ : ∃ q' : Int, (i : Int) - 1 = q' := ⟨_, rfl⟩
        by_cases hlt2 : k < q
        · have d2 : decide (k < q) = true := decide_eq_true hlt2
          have hqi : q + 1 = i := HQ.out
          have hqz : (i : Int) - 1 = (q : Int) := by omega
          clear hq
          obtain ⟨iN, hiN⟩ : ∃ q, q = k := ⟨_, rfl⟩
          obtain ⟨jN, hjN⟩ : ∃ q, q = k + 1 := ⟨_, rfl⟩
          have hin : iN < n := by omega
          have hjn : jN < n := by omega
          have ea : ((k : Int)).toNat = iN := by omega
          have pa : (0 : Int) ≤ (k : Int) := by omega
          have ba : (k : Int) < (n : Int) := by omega
          have ra : IntKind.i64.wrap ((k : Int)) = (k : Int) := by rw [IntKind.wrap_i64]; omega
          have ec : ((k : Int) + 1).toNat = jN := by omega
          have pc : (0 : Int) ≤ (k : Int) + 1 := by omega
          have bc : (k : Int) + 1 < (n : Int) := by omega
          have rc1 : IntKind.i64.wrap ((k : Int) + 1) = (k : Int) + 1 := by rw [IntKind.wrap_i64]; omega
          have HW := Lib.hid (show rotF f a m (k + 2) = swp (rotF f a m (k + 1)) iN jN from by rw [hiN, hjN, HM.out]; exact rot_up f a k hak)
          have HiN := Lib.hid hiN
          have HjN := Lib.hid hjN
          clear hiN hjN
          generalize rotF f a m (k + 1) = fj at *
          have k1 := HSk.out.row.cell hin
          have k2 := HSk.out.row.cell hjn
          have fa := HSk.out.row.frozen iN
          have fb := HSk.out.row.frozen jN
          have HS4 := Lib.hid (HSk.out.swap hin hjn)
          have HSet := Lib.hid (fun q => (HSk.out.row.set_ hin q).cell hjn)
          obtain ⟨p, ep⟩ : ∃ p, fj iN = p := ⟨_, rfl⟩
          obtain ⟨q, eq⟩ : ∃ q, fj jN = q := ⟨_, rfl⟩
          rw [ep] at k1 HS4
          rw [eq] at k2 HS4
          obtain ⟨u3, c3⟩ : ∃ u3, (wr.setCell ⟨g, iN, none⟩ (.int .i64 (q : Nat))).cell? ⟨g, jN, none⟩ = some u3 := ⟨_, HSet.out q⟩
          clear ep eq hin hjn HSet HSk
          go_wp2_with fail
          go_big_region
          clear k1 k2 c3 fa fb
          have HS5 : Hid (St w g n (swp fj iN jN) ((wr.setCell ⟨g, iN, none⟩ (.int .i64 (q : Nat))).setCell ⟨g, jN, none⟩ (.int .i64 (p : Nat))).drew) := Lib.hid (HS4.out.drewN 1)
          clear HS4
          go_wp2
          exact ⟨⟨k + 1, by omega, by omega, by go_num, by rw [HW.out]; exact HS5⟩, by simp [intOf]; omega⟩
        · have d2 : decide (k < q) = false := decide_eq_false hlt2
          have hqi : q + 1 = i := HQ.out
          have hqz : (i : Int) - 1 = (q : Int) := by omega
          have HKQ := Lib.hid (show k + 1 = i from by omega)
          clear hq hqi
          go_wp2
          refine bodyPost_ret (results_none rfl _ _ _) rfl ?_
          refine ⟨rfl, _, ?_, HSk.out⟩
          rw [HKQ.out, HM.out]
          exact merged_first (by rw [← HM.out]; exact hmi) hjb (by rw [← HM.out]; exact HL.out) (HR.out.imp_right fun h => by omega)
set_option maxRecDepth 100000 in
set_option maxHeartbeats 4000000 in
theorem sym_last (A : Option Addr) (cap : Nat) (l : List Nat) (B : Nat) (g rc n a m b : Nat) (f : Nat → Nat) (w : World) (hF : Hid (Fl l)) (hC : Hid (ClIn w A n cap l B g)) (hS : Hid (St w g n f w)) (h1 : b = m + 1) (h2 : a + 1 < m) (h3 : b ≤ n) (hn : n < 4611686018427387904) :
    Calls Try.prog 46 #[.slice (some ⟨g, 0, none⟩) n rc, .int .i64 (a : Int), .int .i64 (m : Int), .int .i64 (b : Int), .func (.func 33) #[] #[.pointer (some ⟨B, 0, none⟩)]] w
      fun e w' => e = .returned (.tuple #[]) ∧ ∃ f', Merged l f f' a m b ∧ St w g n f' w' := by
  have r0 : (b : Int) - (m : Int) = 1 := by omega
  have r1 : ((m : Int) - (a : Int) == 1) = false := by rw [beq_eq_false_iff_ne]; omega
  have HM := Lib.hid h1
  have hmb : m < b := by omega
  have HZ := Lib.hid (rot_none_left f m b)
  clear h1
  go_enter Try.func46, Try.ntmps46
  go_wp2
  clear r1 r0
  go_loopw [14, 15, 16] (fun vi vj _ wr => ∃ (i j : Nat), a ≤ i ∧ i ≤ j ∧ j ≤ m ∧ vi = .int .i64 i ∧ vj = .int .i64 j ∧ Hid (i = a ∨ 0 ≤ cfl l (f m) (f (i - 1))) ∧ Hid (j = m ∨ cfl l (f m) (f j) < 0) ∧ Hid (St w g n f wr)) (fun vi vj _ _ => (intOf vj).toNat - (intOf vi).toNat)
  case atStart => exact ⟨a, m, by omega, by omega, by omega, rfl, rfl, Lib.hid (.inl rfl), Lib.hid (.inl rfl), hS⟩
  case round =>
    obtain ⟨i, j, hmi, hij, hjb, rfl, rfl, HL, HR, HSj⟩ := hrel
    by_cases hlt : i < j
    · have d1 : decide (i < j) = true := decide_eq_true hlt
      have b1 : (i : Int) + (j : Int) ≤ 9223372036854775807 := by omega
      obtain ⟨h, hh⟩ : ∃ h : Nat, ((i : Int) + (j : Int)) / 2 = (h : Int) := ⟨(i + j) / 2, by omega⟩
      have hh1 : i ≤ h := by omega
      have hh2 : h < j := by omega
      have c1 := HSj.out.row.cell (i := m) (by omega)
      have c2 := HSj.out.row.cell (i := h) (by omega)
      have HCL := Lib.hid (HSj.out.cmp hF hC hn (x := m) (y := h) (by omega) (by omega))
      have pX : (0 : Int) ≤ (m : Int) := by omega
      have qX : (m : Int) < (n : Int) := by omega
      have pY : (0 : Int) ≤ (h : Int) := by omega
      have qY : (h : Int) < (n : Int) := by omega
      obtain ⟨x, ex⟩ : ∃ x, f m = x := ⟨_, rfl⟩
      obtain ⟨y, ey⟩ : ∃ y, f h = y := ⟨_, rfl⟩
      rw [ex, ey] at HCL
      rw [ex] at c1
      rw [ey] at c2
      have HX := Lib.hid ex
      have HY := Lib.hid ey
      clear ex ey
      obtain ⟨cv, ecv⟩ : ∃ cv, cfl l x y = cv := ⟨_, rfl⟩
      rw [ecv] at HCL
      have HCV := Lib.hid ecv
      clear ecv
      have hdc : decide (cv < 0) = true ∨ decide (cv < 0) = false := by cases decide (cv < 0) <;> simp
      rcases hdc with hd | hd
      · have hv : cv < 0 := of_decide_eq_true hd
        go_wp2_with fail
        go_region_held3 (fun w' => w'.cell? ⟨g, m, none⟩ = some (.int .i64 (x : Int)) ∧ w'.cell? ⟨g, h, none⟩ = some (.int .i64 (y : Int))) (first | exact ⟨c1, c2⟩ | exact ⟨k1, k2⟩ | fail) (first
          | (go_at_call 33; refine (HCL.out _ (by first | exact Below.refl _ _ | exact ⟨rfl, rfl, rfl, Nat.le_refl _, fun _ _ => rfl⟩)).mono ?_; rintro e w3 ⟨rfl, hb3⟩; have k1 := cell_later hb3 c1; have k2 := cell_later hb3 c2))
        have HS3 := Lib.hid (HSj.out.below (undrew hb3))
        clear hb3 c1 c2 k1 k2 HCL HSj
        go_wp2
        exact ⟨⟨i, h, hmi, by omega, by omega, rfl, rfl, HL, Lib.hid (.inr (by rw [HX.out, HY.out, HCV.out]; exact hv)), HS3⟩, by simp [intOf]; omega⟩
      · have hv : 0 ≤ cv := Int.not_lt.1 (of_decide_eq_false hd)
        go_wp2_with fail
        go_region_held3 (fun w' => w'.cell? ⟨g, m, none⟩ = some (.int .i64 (x : Int)) ∧ w'.cell? ⟨g, h, none⟩ = some (.int .i64 (y : Int))) (first | exact ⟨c1, c2⟩ | exact ⟨k1, k2⟩ | fail) (first
          | (go_at_call 33; refine (HCL.out _ (by first | exact Below.refl _ _ | exact ⟨rfl, rfl, rfl, Nat.le_refl _, fun _ _ => rfl⟩)).mono ?_; rintro e w3 ⟨rfl, hb3⟩; have k1 := cell_later hb3 c1; have k2 := cell_later hb3 c2))
        have HS3 := Lib.hid (HSj.out.below (undrew hb3))
        clear hb3 c1 c2 k1 k2 HCL HSj
        go_wp2
        exact ⟨⟨h + 1, j, by omega, by omega, hjb, by go_num, rfl, Lib.hid (.inr (by rw [show h + 1 - 1 = h by omega, HX.out, HY.out, HCV.out]; exact hv)), HR, HS3⟩, by simp [intOf]; omega⟩
    · obtain rfl : i = j := by omega
      have d1 : decide (i < i) = false := decide_eq_false hlt
      go_wp2
      go_loopw [17] (fun vk wr => ∃ k : Nat, i ≤ k ∧ k ≤ m ∧ vk = .int .i64 k ∧ Hid (St w g n (rotF f k m b) wr)) (fun vk _ => (intOf vk).toNat)
      case atStart => exact ⟨m, by omega, Nat.le_refl _, rfl, by rw [HZ.out]; exact HSj⟩
      case round =>
        obtain ⟨k, hak, hkq, rfl, HSk⟩ := hrel
        by_cases hlt2 : i < k
        · have d2 : decide (i < k) = true := decide_eq_true hlt2
          have d3 : decide (k > i) = true := decide_eq_true hlt2
          obtain ⟨kp, hkp⟩ : ∃ kp, kp + 1 = k := ⟨k - 1, by omega⟩
          have hkz : (k : Int) - 1 = (kp : Int) := by omega
          have HKP := Lib.hid hkp
          obtain ⟨iN, hiN⟩ : ∃ q, q = k := ⟨_, rfl⟩
          obtain ⟨jN, hjN⟩ : ∃ q, q = kp := ⟨_, rfl⟩
          have hin : iN < n := by omega
          have hjn : jN < n := by omega
          have ea : ((k : Int)).toNat = iN := by omega
          have pa : (0 : Int) ≤ (k : Int) := by omega
          have ba : (k : Int) < (n : Int) := by omega
          have ra : IntKind.i64.wrap ((k : Int)) = (k : Int) := by rw [IntKind.wrap_i64]; omega
          have ec : ((kp : Int)).toNat = jN := by omega
          have pc : (0 : Int) ≤ (kp : Int) := by omega
          have bc : (kp : Int) < (n : Int) := by omega
          have rc1 : IntKind.i64.wrap ((kp : Int)) = (kp : Int) := by rw [IntKind.wrap_i64]; omega
          have HW := Lib.hid (show rotF f kp m b = swp (rotF f k m b) iN jN from by rw [hiN, hjN, HM.out, ← hkp]; exact rot_down f m kp (by omega))
          have HiN := Lib.hid hiN
          have HjN := Lib.hid hjN
          clear hiN hjN
          generalize rotF f k m b = fj at *
          have k1 := HSk.out.row.cell hin
          have k2 := HSk.out.row.cell hjn
          have fa := HSk.out.row.frozen iN
          have fb := HSk.out.row.frozen jN
          have HS4 := Lib.hid (HSk.out.swap hin hjn)
          have HSet := Lib.hid (fun q => (HSk.out.row.set_ hin q).cell hjn)
          obtain ⟨p, ep⟩ : ∃ p, fj iN = p := ⟨_, rfl⟩
          obtain ⟨q, eq⟩ : ∃ q, fj jN = q := ⟨_, rfl⟩
          rw [ep] at k1 HS4
          rw [eq] at k2 HS4
          obtain ⟨u3, c3⟩ : ∃ u3, (wr.setCell ⟨g, iN, none⟩ (.int .i64 (q : Nat))).cell? ⟨g, jN, none⟩ = some u3 := ⟨_, HSet.out q⟩
          clear ep eq hin hjn HSet HSk
          go_wp2_with fail
          go_big_region
          clear k1 k2 c3 fa fb
          have HS5 : Hid (St w g n (swp fj iN jN) ((wr.setCell ⟨g, iN, none⟩ (.int .i64 (q : Nat))).setCell ⟨g, jN, none⟩ (.int .i64 (p : Nat))).drew) := Lib.hid (HS4.out.drewN 1)
          clear HS4
          go_wp2
          have hkp := HKP.out
          exact ⟨⟨kp, by omega, by omega, rfl, by rw [HW.out]; exact HS5⟩, by simp [intOf]; omega⟩
        · obtain rfl : i = k := by omega
          have d2 : decide (i < i) = false := decide_eq_false hlt2
          have d3 : decide (i > i) = false := decide_eq_false hlt2
          go_wp2
          refine bodyPost_ret (results_none rfl _ _ _) rfl ?_
          refine ⟨rfl, _, ?_, HSk.out⟩
          rw [HM.out]
          exact merged_last hmi hjb (HL.out.imp_right fun h => by omega) HR.out
end Go.Proofs.Ytckmmcklhdfjfaa
