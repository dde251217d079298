/-
  times, copied.
-/
import Derived.Test.YtebpaafofombaaaMxW3
namespace Go.Proofs.Ytebpaafofombaaa
open Go.RowKit GfMath MxMath
set_option linter.unusedVariables false
/-- What times has, when so many rows are added. -/
def TimesRel (w : World) (n : Nat) (g : Nat → El) (v : Value) (wr : World) : Prop :=
  ∃ C d, v = .slice C n d ∧ n ≤ d ∧ d ≤ maxLen ∧ wr.ownsRow w.heap.size 5 1 (.slice C n d) n ((lrow n g).map bv) ∧ Below w.heap.size w wr
set_option maxRecDepth 100000 in
theorem times_any (A B : Option Addr) (ca cb r n : Nat) (f : Nat → El) (M : Mat) (w : World) (hr : Hid (Reads w w.heap.size 1 A r ((lrow r f).map bv))) (HM : Hid (InM w B cb (lmat r n M))) (hr1 : r ≤ maxLen) (hm : n ≤ 140737488351232) :
    Calls Try.prog 36 #[.slice A r ca, .slice B r cb, .int .i64 n] w (RetRow n (fun j => fsum r (fun i => f i * M i j)) w) := by
  unfold maxLen at hr1
  have hmk := run_make_row' (P := Try.prog) 22 5 (.int .u8 0) 1 Try.underlying22 Try.info5 rfl .i64 .i64 n (by omega) (by omega)
  have hst : TimesRel w n (fun j => fsum 0 (fun i => f i * M i j)) (.slice (some ⟨w.heap.size, 0, none⟩) n n) (w.alloc (.cells (madeCells #[.int .u8 0] n) 5)) :=
    ⟨_, _, rfl, Nat.le_refl _, by unfold maxLen; omega, own_zeros w n (by unfold maxLen; omega), (Below.refl _ _).alloc (Nat.le_refl _) _⟩
  have HST := Lib.hid hst
  clear hst
  go_enter Try.func36, Try.ntmps36
  go_wp2
  clear hmk
  generalize w.alloc (.cells (madeCells #[.int .u8 0] n) 5) = wa at *
  go_loopw [7, 8, 9, 14] (fun vo _ _ vi wr => ∃ k : Nat, k ≤ r ∧ vi = .int .i64 k ∧ Hid (TimesRel w n (fun j => fsum k (fun i => f i * M i j)) vo wr)) (fun _ _ _ vi _ => r - (intOf vi).toNat)
  case atStart => exact ⟨0, by omega, rfl, HST⟩
  case round =>
    obtain ⟨k, hk, rfl, hR⟩ := hrel
    clear HST
    by_cases hlt : k < r
    · obtain ⟨C, d, rfl, h1, h2, ho, hb⟩ := hR.out
      have HO := Lib.hid ho
      have HB := Lib.hid hb
      clear hR ho hb
      obtain ⟨ad, rfl, _, hc1⟩ := (hr.out.below HB.out).elem hlt
      obtain ⟨bd, D, c', rfl, hc2, h3, h4, hrow⟩ := (HM.out.later HB.out).mrow hlt
      have HRow := Lib.hid hrow
      clear hrow
      by_cases h0 : (f k).v = 0
      · have e1 : (((f k).v : Int) == 0) = true := by simp [h0]
        have hz : ∀ j, f k * M k j = 0 := fun j => by rw [show f k = 0 from El.ext' h0, zmul]
        go_wp2
        refine ⟨⟨k + 1, by omega, by go_num, Lib.hid ⟨C, d, rfl, h1, h2, ?_, HB.out⟩⟩, by simp [intOf]; omega⟩
        have := HO.out
        rwa [lrow_congr (g := fun j => fsum (k + 1) (fun i => f i * M i j)) (fun j _ => by rw [fsum, hz, add0])] at this
      · have e1 : (((f k).v : Int) == 0) = false := by simp; omega
        have HX := Lib.hid (Reads.of_own HO.out)
        go_wp2_with (go_at_call 44; refine (mix_el _ _ _ _ n _ _ (f k) _ HX HRow hm).mono ?_; rintro e w1 ⟨C', d', rfl, h1', h2', ho', hb'⟩; have HO' := Lib.hid ho'; have HB' := Lib.hid hb'; clear ho' hb')
        refine ⟨⟨k + 1, by omega, by go_num, Lib.hid ⟨C', d', rfl, h1', h2', ?_, HB.out.trans (HB'.out.mono HB.out.size)⟩⟩, by simp [intOf]; omega⟩
        have := own_base HO'.out (base' := w.heap.size) HB.out.size
        rwa [lrow_congr (g := fun j => fsum (k + 1) (fun i => f i * M i j)) (fun j _ => by rw [fsum, mulC (M k j)])] at this
    · obtain rfl : k = r := by omega
      obtain ⟨C, d, rfl, h1, h2, ho, hb⟩ := hR.out
      have HO := Lib.hid ho
      have HB := Lib.hid hb
      clear hR ho hb
      go_wp2
      go_ret
      exact ⟨C, d, rfl, h1, h2, HO.out, HB.out⟩
end Go.Proofs.Ytebpaafofombaaa
