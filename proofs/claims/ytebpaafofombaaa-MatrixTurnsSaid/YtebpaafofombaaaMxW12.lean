/-
  Generator.
-/
import Derived.Test.YtebpaafofombaaaMxW11
namespace Go.Proofs.Ytebpaafofombaaa
open Go.RowKit GfMath MxMath
set_option linter.unusedVariables false
theorem genM_top {k i j : Nat} (h : i < k) : genM k i j = dl i j := by unfold genM; rw [if_pos h]
theorem genM_low {k i j : Nat} (h : ¬ i < k) (hi : i < 256) (hj : j < 256) : (genM k i j).v = gdiv 1 (i ^^^ j) := by
  unfold genM; rw [if_neg h, inv_v, add_v, el_v hi, el_v hj]
set_option maxRecDepth 100000 in
set_option maxHeartbeats 1000000 in
theorem generator_ok (k n : Nat) (w : World) (h0 : 0 < k) (h1 : k ≤ n) (h2 : n ≤ 255) :
    Calls Try.prog 17 #[.int .i64 k, .int .i64 n] w (RetMM (lmat n k (genM k)) 0 w) := by
  have e1 : decide (0 < (k : Int)) = true := decide_eq_true (by omega)
  have e2 : decide ((k : Int) ≤ (n : Int)) = true := decide_eq_true (by omega)
  have e3 : decide ((n : Int) ≤ 255) = true := decide_eq_true (by omega)
  have HST : Hid (ESt w (.slice none 0 0) (lmat 0 k (genM k)) (w.alloc (.cells #[.int .i64 0] 26))) := Lib.hid (ESt.new w)
  go_enter_defers Try.func17, Try.ntmps17
  go_wp2_with (go_at_call 32; refine (needs_ok _).mono ?_; rintro e w1 ⟨rfl, rfl⟩)
  generalize w.alloc (.cells #[.int .i64 0] 26) = wa at *
  go_loopw [4, 6, 7, 8, 22, 32, 48] (fun vo _ _ _ vi _ _ wr => ∃ i : Nat, i ≤ n ∧ vi = .int .i64 i ∧ Hid (ESt w vo (lmat i k (genM k)) wr)) (fun _ _ _ _ vi _ _ _ => n - (intOf vi).toNat)
  case atStart => exact ⟨0, by omega, rfl, HST⟩
  case round =>
    obtain ⟨i, hi, rfl, hst⟩ := hrel
    clear HST
    have hmk := run_make_row' (P := Try.prog) 22 5 (.int .u8 0) 1 Try.underlying22 Try.info5 rfl .i64 .i64 k (by omega) (by omega)
    by_cases hlt : i < n
    · have HF := Lib.hid (Fill.new wr k (by unfold maxLen; omega))
      go_wp2
      clear hmk
      generalize wr.alloc (.cells (madeCells #[.int .u8 0] k) 5) = wb at *
      go_loopw [8, 29, 32, 48] (fun _ vi _ _ w' => ∃ j : Nat, j ≤ k ∧ vi = .int .i64 j ∧ Hid (Fill wr k (fun q => if q < j then genM k i q else 0) w')) (fun _ vi _ _ _ => k - (intOf vi).toNat)
      case atStart => exact ⟨0, by omega, rfl, Lib.hid (HF.out.congr fun q _ => by simp)⟩
      case round =>
        obtain ⟨j, hj, rfl, hF⟩ := hrel
        clear HF
        by_cases hjl : j < k
        · by_cases hik : i < k
          · have d1 : decide ((k : Int) ≤ (i : Int)) = false := decide_eq_false (by omega)
            by_cases hij : i = j
            · subst hij
              obtain ⟨c1, c2⟩ := hF.out.cell hjl
              have HN := Lib.hid (hF.out.set_ (x := 1) (g := fun q => if q < i + 1 then genM k i q else 0) hjl (by omega) (fun q _ => by
                by_cases e : q = i
                · subst e; rw [if_pos rfl, if_pos (by omega), genM_top hik]; unfold dl; rw [if_pos rfl]; rfl
                · rw [if_neg e]
                  by_cases e2 : q < i
                  · rw [if_pos e2, if_pos (by omega)]
                  · rw [if_neg e2, if_neg (by omega)]))
              go_wp2
              exact ⟨⟨i + 1, by omega, by go_num, HN⟩, by simp [intOf]; omega⟩
            · have d2 : ((i : Int) == (j : Int)) = false := by simp; omega
              have HN := Lib.hid (hF.out.congr (g := fun q => if q < j + 1 then genM k i q else 0) (fun q _ => by
                by_cases e : q = j
                · subst e; rw [if_neg (by omega), if_pos (by omega), genM_top hik]; unfold dl; rw [if_neg hij]
                · by_cases e2 : q < j
                  · rw [if_pos e2, if_pos (by omega)]
                  · rw [if_neg e2, if_neg (by omega)]))
              go_wp2
              exact ⟨⟨j + 1, by omega, by go_num, HN⟩, by simp [intOf]; omega⟩
          · have d1 : decide ((k : Int) ≤ (i : Int)) = true := decide_eq_true (by omega)
            have m1 : (i : Int) % 256 = (i : Int) := by omega
            have m2 : (j : Int) % 256 = (j : Int) := by omega
            have hxx := xor8 i j (by omega) (by omega)
            have hne : i ^^^ j ≠ 0 := fun e => by
              have : i = j := by
                have h := congrArg (· ^^^ j) e
                simp only [Nat.xor_assoc, Nat.xor_self, Nat.xor_zero, Nat.zero_xor] at h
                exact h
              omega
            have hxl : i ^^^ j < 256 := xor_lt (by omega) (by omega)
            have hgl : gdiv 1 (i ^^^ j) < 256 := gdiv_lt 1 _
            have hg := Lib.hid (genM_low hik (by omega) (show j < 256 by omega))
            go_wp2_with (go_at_call 38; refine (div_any 1 (i ^^^ j) (by omega) hxl hne _).mono ?_; rintro e w1 ⟨rfl, hb⟩; have HB := Lib.hid hb; have hc := (hF.out.later hb).cell hjl; obtain ⟨c1, c2⟩ := hc; clear hb)
            refine ⟨⟨j + 1, by omega, by go_num, Lib.hid ?_⟩, by simp [intOf]; omega⟩
            refine (hF.out.later HB.out).set_ hjl hgl (fun q _ => ?_)
            by_cases e : q = j
            · subst e
              rw [if_pos rfl, if_pos (by omega)]
              refine El.ext' ?_
              show (genM k i q).v = gdiv 1 (i ^^^ q) % 256
              rw [hg.out, Nat.mod_eq_of_lt hgl]
            · rw [if_neg e]
              by_cases e2 : q < j
              · rw [if_pos e2, if_pos (by omega)]
              · rw [if_neg e2, if_neg (by omega)]
        · obtain rfl : j = k := by omega
          have HO := Lib.hid (hF.out.congr (g := genM j i) (fun q hq => by rw [if_pos hq]))
          go_wp2_with (at_builtin
                       refine wpl_row rfl (.tmp 56) (.tmp 58) rfl (hst.out.later HO.out.bel).toMSt ?ln (.slice (some ⟨_, 0, none⟩) j j) (lrow j (genM j i)) ?ow (lrow_byt _ _) rfl ?gx rfl ?_
                       case gx => rfl
                       case ln => (rw [lmat_len]; omega)
                       case ow => (rw [lrow_len]; exact own_base HO.out.own hst.out.bel.size)
                       intro v2 w2 hh)
          refine ⟨⟨i + 1, by omega, by go_num, Lib.hid ⟨?_, ?_⟩⟩, by simp [intOf]; omega⟩
          · rw [lmat_snoc]; exact hh.out.1
          · exact hh.out.2 _ _ _ (by decide) (hst.out.later HO.out.bel).err
    · obtain rfl : i = n := by omega
      have hcE := hst.out.err.cell 0
      have hfE := hst.out.err.frozen 0
      have hEnd := hst.out.ends 0
      have HEnd := Lib.hid hEnd
      clear hEnd
      go_wp2
      have hx := HEnd.out.2
      refine leaves_cons (f := 31) (args := #[.pointer (some ⟨w.heap.size, 0, none⟩)]) (by simp) (by simp [go_sem]) ?_
      refine (refused_idle _ _).mono ?_
      rintro e u' w'' ⟨rfl, rfl, rfl⟩
      simp [Leaves, settle, results, Try.results17, go_sem, hx]
      exact ⟨_, rfl, HEnd.out.1⟩
end Go.Proofs.Ytebpaafofombaaa
