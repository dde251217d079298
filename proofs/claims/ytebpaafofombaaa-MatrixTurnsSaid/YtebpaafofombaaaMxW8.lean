/-
  Mul, Apply.
-/
import Derived.Test.YtebpaafofombaaaMxW7
namespace Go.Proofs.Ytebpaafofombaaa
open Go.RowKit GfMath MxMath
set_option linter.unusedVariables false
theorem sized_mat (A : Option Addr) (cap r n : Nat) (M : Mat) (w : World) (HM : Hid (InM w A cap (lmat r n M))) (r0 : 0 < r) (r1 : r ≤ 255) (n0 : 0 < n) (n1 : n ≤ 255) :
    Calls Try.prog 33 #[.slice A r cap] w fun e w' => e = .returned (.tuple #[.int .i64 r, .int .i64 n]) ∧ w = w' := by
  have := sized_ok A cap n _ w HM (lmat_good M r0 r1 n0 n1)
  rwa [lmat_len] at this
set_option maxRecDepth 100000 in
set_option maxHeartbeats 1000000 in
theorem mul_ok (A B : Option Addr) (ca cb r m n : Nat) (K M : Mat) (w : World) (HA : Hid (InM w A ca (lmat r m K))) (HB : Hid (InM w B cb (lmat m n M))) (r0 : 0 < r) (r1 : r ≤ 255) (m0 : 0 < m) (m1 : m ≤ 255) (n0 : 0 < n) (n1 : n ≤ 255) :
    Calls Try.prog 14 #[.slice A r ca, .slice B m cb] w (RetMM (lmat r n (mm m K M)) 0 w) := by
  have HST : Hid (ESt w (.slice none 0 0) (lmat 0 n (mm m K M)) (w.alloc (.cells #[.int .i64 0] 26))) := Lib.hid (ESt.new w)
  have HA1 := Lib.hid (HA.out.later HST.out.bel)
  have HB1 := Lib.hid (HB.out.later HST.out.bel)
  go_enter_defers Try.func14, Try.ntmps14
  go_wp2_with (first
    | (go_at_call 32; refine (needs_ok _).mono ?_; rintro e w1 ⟨rfl, rfl⟩)
    | (go_at_call 33; refine (sized_mat _ _ _ _ _ _ (by first | exact HB1 | exact HA1) (by assumption) (by assumption) (by assumption) (by assumption)).mono ?_; rintro e w1 ⟨rfl, rfl⟩))
  generalize w.alloc (.cells #[.int .i64 0] 26) = wa at *
  go_loopw [4, 11, 28] (fun vo _ vi wr => ∃ k : Nat, k ≤ r ∧ vi = .int .i64 k ∧ Hid (ESt w vo (lmat k n (mm m K M)) wr)) (fun _ _ vi _ => r - (intOf vi).toNat)
  case atStart => exact ⟨0, by omega, rfl, HST⟩
  case round =>
    obtain ⟨k, hk, rfl, hst⟩ := hrel
    clear HST HA1 HB1
    by_cases hlt : k < r
    · obtain ⟨ad, D, c', rfl, hc1, h3, h4, hrow⟩ := (HA.out.later hst.out.bel).mrow hlt
      have HRow := Lib.hid hrow
      have HBr := Lib.hid (HB.out.later hst.out.bel)
      clear hrow
      go_wp2_with (first
        | (at_builtin
           refine wpl_row rfl (.tmp 32) (.tmp 37) rfl (hst.out.later HBl.out).toMSt ?ln (.slice C n d) (lrow n (fun j => fsum m (fun i => K k i * M i j))) ?ow (lrow_byt _ _) rfl ?gx rfl ?_
           case gx => rfl
           case ln => (rw [lmat_len]; omega)
           case ow => (rw [lrow_len]; exact own_base HO.out hst.out.bel.size)
           intro v2 w2 hh)
        | (go_at_call 36; refine (times_any _ _ _ _ m n _ M _ HRow HBr (by unfold maxLen; omega) (by omega)).mono ?_; rintro e w1 ⟨C, d, rfl, q1, q2, ho, hb⟩; have HO := Lib.hid ho; have HBl := Lib.hid hb; clear ho hb))
      refine ⟨⟨k + 1, by omega, by go_num, Lib.hid ⟨?_, ?_⟩⟩, by simp [intOf]; omega⟩
      · rw [lmat_snoc]; exact hh.out.1
      · exact hh.out.2 _ _ _ (by decide) (hst.out.later HBl.out).err
    · obtain rfl : k = r := by omega
      have hcE := hst.out.err.cell 0
      have hfE := hst.out.err.frozen 0
      have hEnd := hst.out.ends 0
      have HEnd := Lib.hid hEnd
      clear hEnd
      go_wp2
      have hx := HEnd.out.2
      refine leaves_cons (f := 31) (args := #[.pointer (some ⟨w.heap.size, 0, none⟩)]) (by simp) (by simp [go_sem]) ?_
      refine (refused_idle _ _).mono ?_
      rintro e u' w'' ⟨rfl, rfl, rfl⟩
      simp [Leaves, settle, results, Try.results14, go_sem, hx]
      exact ⟨_, rfl, HEnd.out.1⟩
end Go.Proofs.Ytebpaafofombaaa
