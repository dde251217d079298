/-
  The closure that Order hands to the sort, and the library's insertion sort with it.
-/
import Derived.Test.YtckmmcklhdfjfaaGaW3
import Derived.Test.YtckmmcklhdfjfaaLibS
import Derived.Deep.RegionHeld3
namespace Go.Proofs.Ytckmmcklhdfjfaa
open Go.RowKit
set_option linter.unusedVariables false
def Fl (l : List Nat) : Prop := ∀ x ∈ l, x < 2 ^ 64
theorem Fl.getD {l : List Nat} (h : Fl l) (k : Nat) : l.getD k 0 < 2 ^ 64 := by
  rcases Nat.lt_or_ge k l.length with hk | hk
  · rw [List.getD_eq_getElem?_getD, List.getElem?_eq_getElem hk]; exact h _ (List.getElem_mem hk)
  · rw [List.getD_eq_getElem?_getD, List.getElem?_eq_none hk]; decide
def cfl (l : List Nat) (x y : Nat) : Int := compF (l.getD x 0) (l.getD y 0)
theorem undrew {B : Nat} {a w : World} (h : Below B a.drew w) : Below B a w := ⟨h.os, h.tape, h.output, h.size, h.block⟩
set_option maxRecDepth 100000 in
set_option maxHeartbeats 1000000 in
theorem closure_any (A : Option Addr) (n cap : Nat) (l : List Nat) (B x y : Nat) (w : World) (HR : Hid (Reads w w.heap.size 1 A n (l.map fv))) (hF : Hid (Fl l)) (hn : n ≤ 9223372036854775807)
    (hB : w.cell? ⟨B, 0, none⟩ = some (.slice A n cap)) (hx : x < n) (hy : y < n) :
    Calls Try.prog 33 #[.int .i64 (x : Int), .int .i64 (y : Int), .pointer (some ⟨B, 0, none⟩)] w fun e w' => e = .returned (.int .i64 (cfl l x y)) ∧ Below w.heap.size w w' := by
  obtain ⟨a1, ea, hb1, hc1⟩ := HR.out.flt hx
  obtain ⟨a2, ea2, hb2, hc2⟩ := HR.out.flt hy
  rw [ea] at ea2
  obtain rfl := Option.some.inj ea2
  clear ea2
  subst ea
  have l1 := hF.out.getD x
  have l2 := hF.out.getD y
  unfold cfl
  generalize l.getD x 0 = u at hc1 l1 ⊢
  generalize l.getD y 0 = v at hc2 l2 ⊢
  have HC := Lib.hid (compare_any u v · l1 l2)
  clear l1 l2
  go_enter Try.func33, Try.ntmps33
  go_wp2_with fail
  go_region_held3 (fun w' => w'.cell? ⟨B, 0, none⟩ = some (.slice (some a1) n cap) ∧ w'.cell? (a1.add x) = some (.float .f64 u) ∧ w'.cell? (a1.add y) = some (.float .f64 v)) (first | exact ⟨hB, hc1, hc2⟩ | exact ⟨k1, k2, k3⟩ | fail) (first
    | (go_at_call 34; refine (HC.out _).mono ?_; rintro e w1 ⟨rfl, hb⟩; have k1 := cell_later hb hB; have k2 := cell_later hb hc1; have k3 := cell_later hb hc2))
  go_wp2
  go_ret
  exact ⟨rfl, undrew hb⟩
end Go.Proofs.Ytckmmcklhdfjfaa
