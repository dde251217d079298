/-
  WHAT COMES IN: a slice of floats; the statement's walk on sums, means, ratios.
-/
import Derived.Test.YtckmmcklhdfjfaaGaW8
import Derived.Deep.Slices
namespace Go.Proofs.Ytckmmcklhdfjfaa
open Go.RowKit
open Go.ChangeShapes Go.WideShapes Go.Deep
set_option linter.unusedVariables false
/-- A slice of floats that came in. -/
def Flts (w : World) (A : Option Addr) (len cap : Nat) (l : List Nat) : Prop := Reads w w.heap.size 1 A len (l.map fv) ∧ Fl l ∧ l.length = len ∧ len ≤ cap ∧ cap ≤ maxLen
section
variable {H : Type} {enc : TypeId × Value → H} {P : Program} {w : World} {base : Nat} {spare : Nat → Bool} {held : Bool}
theorem trod_flt {fuel : Nat} {t : TypeId} {k : FloatKind} {cs : List Value} {x : DataW H × List MemPlace} (ht : P.underlying t = some (.float k)) (h : DataW.trod enc P w base spare held fuel t cs = some x) : ∃ n, cs = [.float k n] ∧ (Lit.float k n).wf = true := by
  cases fuel with
  | zero => simp [DataW.trod] at h
  | succ n =>
    unfold DataW.trod at h
    rw [ht] at h
    split at h <;> simp_all
theorem open_flts {t e : TypeId} {fuel : Nat} {v : Value} {x : DataW H × List MemPlace} (ht : P.underlying t = some (.slice e)) (he : P.underlying e = some (.float .f64)) (hc : P.cellsOf e = 1)
    (h : DataW.trod enc P w base spare held fuel t [v] = some x) : ∃ A len cap l, v = .slice A len cap ∧ Flts w A len cap l := by
  rcases open_slice1 ht hc h with ⟨e0, _⟩ | ⟨a, len, cap, m, n, V, D, Pl, e0, hb, hl, hm, hmm, rfl, hx⟩
  · injection e0 with e0
    exact ⟨none, 0, 0, [], e0, Reads.none_, (fun x hx => by cases hx), rfl, Nat.le_refl _, by unfold maxLen; omega⟩
  · injection e0 with e0
    have hlm : len ≤ m := by rw [hmm]; split <;> omega
    obtain ⟨B, hB⟩ := choose_lt (α := Nat) (p := fun i b => V i = .float .f64 b ∧ b < 2 ^ 64) (fun i (hi : i < len) => by
      obtain ⟨b, h1, h2⟩ := trod_flt he (hx i (by omega)).2
      injection h1 with h1
      exact ⟨b, h1, by simpa [Lit.wf] using h2⟩)
    refine ⟨some a, len, cap, (List.range len).map B, e0, ⟨by simp, fun hn => ⟨a, rfl, ?_, ?_⟩⟩, ?_, by simp, hl, hm⟩
    · have := World.block_lt_of_cell? _ _ (hx 0 (by omega)).1
      rwa [block_of_add] at this
    · intro j u hu
      simp only [List.map_map, List.getElem?_map, Option.map_eq_some_iff] at hu
      obtain ⟨i, hi, rfl⟩ := hu
      obtain ⟨hj, rfl⟩ := List.getElem?_eq_some_iff.1 hi
      simp only [List.length_range] at hj
      simp only [List.getElem_range]
      rw [(hx j (by omega)).1, (hB j hj).1]
      rfl
    · intro y hy
      obtain ⟨i, hi, rfl⟩ := List.mem_map.1 hy
      exact (hB i (List.mem_range.1 hi)).2
theorem open_in_flts {t e : TypeId} {A : Option Addr} {len cap : Nat} {d : DataW H} {ps : List MemPlace} (ht : P.underlying t = some (.slice e)) (he : P.underlying e = some (.float .f64)) (hc : P.cellsOf e = 1)
    (h : DataW.Trod enc P w base spare held t (.slice A len cap) d ps) : ∃ l, Flts w A len cap l := by
  obtain ⟨fuel, hf⟩ := h
  obtain ⟨A', len', cap', l, e, hl⟩ := open_flts ht he hc (v := .slice A len cap) (by simpa [Value.cells] using hf)
  injection e with e1 e2 e3
  subst e1 e2 e3
  exact ⟨l, hl⟩
end
set_option maxRecDepth 100000 in
set_option maxHeartbeats 4000000 in
theorem reckons_any (A : Option Addr) (n cap : Nat) (l : List Nat) (a b : Nat) (w : World) (HR : Hid (Reads w w.heap.size 1 A n (l.map fv))) (hl : Hid (l.length = n)) (hn : n ≤ 9223372036854775807) :
    Calls Try.prog 3 #[.slice A n cap, .float .f64 a, .float .f64 b] w fun e w' => e = .returned (.bool true) ∧ Below w.heap.size w w' := by
  go_enter Try.func3, Try.ntmps3
  go_wp2_with (first
    | (go_at_call 8; refine (sum_any A n cap l _ HR hl hn).mono ?_; rintro e w1 ⟨r1, d1, rfl, h1, k1, rfl⟩)
    | (go_at_call 9; refine (rsum_any A n cap l _ (Lib.hid (HR.out.drewN _)) hl hn).mono ?_; rintro e w2 ⟨r2, d2, rfl, h2, k2, rfl⟩)
    | (go_at_call 10; refine (mean_any A n cap l _ (Lib.hid (HR.out.drewN _)) hl hn).mono ?_; rintro e w1 ⟨r3, d3, rfl, h3, k3, rfl⟩)
    | (go_at_call 11; refine (rmean_any A n cap l _ (Lib.hid (HR.out.drewN _)) hl hn).mono ?_; rintro e w2 ⟨r4, d4, rfl, h4, k4, rfl⟩)
    | (go_at_call 12; refine (ratio_any _ _ _).mono ?_; rintro e w1 ⟨r5, d5, rfl, h5, k5, rfl⟩)
    | (go_at_call 13; refine (rratio_any _ _ _).mono ?_; rintro e w2 ⟨r6, d6, rfl, h6, k6, rfl⟩)
    | (go_at_call 7; refine (same_any _ _ _ (by first | exact h1.trans h2.symm | exact h3.trans h4.symm | exact h5.trans h6.symm)).mono ?_; rintro e w3 ⟨rfl, rfl⟩)
    | (go_at_call 14; refine (heads_any _).mono ?_; rintro e w4 ⟨rfl, hb⟩; have HB := Lib.hid hb; clear hb))
  go_ret
  exact ⟨rfl, (bel_drewN (Below.refl _ _) _).trans HB.out⟩
theorem walk_GaugeReckons (W : World) (A : Option Addr) (n cap : Nat) (l : List Nat) (h : Flts W A n cap l) (a : Nat) (wa : (Lit.float .f64 a).wf = true) (b : Nat) (wb : (Lit.float .f64 b).wf = true) :
    Calls Try.prog 3 #[.slice A n cap, .float .f64 a, .float .f64 b] W fun e w' => e = .returned (.bool true) ∧ Below W.heap.size W w' :=
  reckons_any A n cap l a b W (Lib.hid h.1) (Lib.hid h.2.2.1) (by have := h.2.2.2; unfold maxLen at this; omega)
end Go.Proofs.Ytckmmcklhdfjfaa
