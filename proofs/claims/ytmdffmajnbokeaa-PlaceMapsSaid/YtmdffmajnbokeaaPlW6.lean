/-
  The walk of Nodes.
-/
import Derived.Test.YtmdffmajnbokeaaPlW5
namespace Go.Proofs.Ytmdffmajnbokeaa
open Go.RowKit StrMath PlMath
set_option linter.unusedVariables false
theorem wf32 {x : Int} (h1 : 0 ≤ x) (h2 : x ≤ 65535) : (Lit.int .i64 x).wf = true := wf_small (by omega) (by omega)
section
variable (e : Nat) (A : Option Addr) (n cap : Nat) (ms : List Mem) (g t : Int) (w : World)
set_option maxRecDepth 100000 in
theorem nodes_map (hr : Hid (Reads w w.heap.size 2 A n (mcells ms))) (h64 : M64 ms) (hc : n ≤ cap) (hm : cap ≤ maxLen) (hk : chk ms = false) :
    Calls Try.prog 9 #[mapV e A n cap, .int .i64 g, .int .i64 t] w (RetI ([], 110) w) := by
  have H := Lib.hid (fun W h => check_any e A n cap ms W h h64 hc hm)
  have E0 : Hid (errM (chk ms) = 110) := Lib.hid (by rw [hk]; rfl)
  clear hk
  unfold mapV
  go_enter Try.func9, Try.ntmps9
  go_wp2_with fail
  refine (H.out _ ((hr.out.alloc (Nat.le_refl _) _).more (by simp))).mono ?_
  rintro e w2 ⟨rfl, hb⟩
  have hb2 : Below w.heap.size w w2 := ((Below.refl _ _).alloc (Nat.le_refl _) _).trans (hb.mono (by simp))
  rw [E0.out]
  clear hb
  go_wp2
  go_ret2
  exact RetI.nil 110 hb2
set_option maxRecDepth 100000 in
theorem nodes_arg (hr : Hid (Reads w w.heap.size 2 A n (mcells ms))) (h64 : M64 ms) (hc : n ≤ cap) (hm : cap ≤ maxLen) (hk : chk ms = true) (hb : g < 0 ∨ 64 ≤ g ∨ t < 1 ∨ 255 < t) :
    Calls Try.prog 9 #[mapV e A n cap, .int .i64 g, .int .i64 t] w (RetI ([], 2) w) := by
  have H := Lib.hid (fun W h => check_any e A n cap ms W h h64 hc hm)
  have E0 : Hid (errM (chk ms) = 0) := Lib.hid (by rw [hk]; rfl)
  have aux : decide (g < 0) = true ∨ (decide (g < 0) = false ∧ decide (64 ≤ g) = true) ∨ (decide (g < 0) = false ∧ decide (64 ≤ g) = false ∧ decide (t < 1) = true) ∨
      (decide (g < 0) = false ∧ decide (64 ≤ g) = false ∧ decide (t < 1) = false ∧ decide (255 < t) = true) := by
    simp only [decide_eq_true_eq, decide_eq_false_iff_not]; omega
  clear hk hb
  unfold mapV
  rcases aux with d1 | ⟨d1, d2⟩ | ⟨d1, d2, d3⟩ | ⟨d1, d2, d3, d4⟩
  all_goals
    go_enter Try.func9, Try.ntmps9
    go_wp2_with fail
    refine (H.out _ ((hr.out.alloc (Nat.le_refl _) _).more (by simp))).mono ?_
    rintro e w2 ⟨rfl, hb⟩
    have hb2 : Below w.heap.size w w2 := ((Below.refl _ _).alloc (Nat.le_refl _) _).trans (hb.mono (by simp))
    rw [E0.out]
    clear hb
    go_wp2
    go_ret2
    exact RetI.nil 2 hb2
end
theorem box_after {w w2 : World} {T : TypeId} {cs : Array Value} (hb : Below (w.alloc (.cells cs T)).heap.size (w.alloc (.cells cs T)) w2) : Blk w2 w.heap.size T cs := (Blk.new w T cs).below hb (by simp)
section
variable (e : Nat) (A : Option Addr) (n cap : Nat) (ms : List Mem) (g t : Nat) (w : World)
set_option maxRecDepth 100000 in
theorem nodes_few (hr : Hid (Reads w w.heap.size 2 A n (mcells ms))) (h64 : M64 ms) (hc : n ≤ cap) (hm : cap ≤ maxLen) (hk : chk ms = true) (h1 : g < 64) (h2 : 1 ≤ t) (h3 : t ≤ 255) (hf : wts ms < t) :
    Calls Try.prog 9 #[mapV e A n cap, .int .i64 g, .int .i64 t] w (RetI ([], 111) w) := by
  have H := Lib.hid (fun W h => check_any e A n cap ms W h h64 hc hm)
  have HW := Lib.hid (fun W h => weights_any e A n cap ms W h hc hm)
  have E0 : Hid (errM (chk ms) = 0) := Lib.hid (by rw [hk]; rfl)
  have d1 : decide ((g : Int) < 0) = false := decide_eq_false (by omega)
  have d2 : decide (64 ≤ (g : Int)) = false := decide_eq_false (by omega)
  have d3 : decide ((t : Int) < 1) = false := decide_eq_false (by omega)
  have d4 : decide (255 < (t : Int)) = false := decide_eq_false (by omega)
  have d2' : decide (64 ≤ g) = false := decide_eq_false (by omega)
  have d3' : decide (t < 1) = false := decide_eq_false (by omega)
  have d4' : decide (255 < t) = false := decide_eq_false (by omega)
  clear hk
  generalize wts ms = c at *
  have d5 : decide (c < t) = true := decide_eq_true hf
  unfold mapV at HW H ⊢
  go_enter Try.func9, Try.ntmps9
  go_wp2_with fail
  refine (H.out _ ((hr.out.alloc (Nat.le_refl _) _).more (by simp))).mono ?_
  rintro e w2 ⟨rfl, hb⟩
  have hb2 : Below w.heap.size w w2 := ((Below.refl _ _).alloc (Nat.le_refl _) _).trans (hb.mono (by simp))
  have hx := box_after hb
  have hx0 := hx.cell 0
  have hx1 := hx.cell 1
  have hs2 := hb.size
  rw [E0.out]
  clear hb hx
  go_wp2_with fail
  refine (HW.out _ ((hr.out.below hb2).more hb2.size)).mono ?_
  rintro e w3 ⟨rfl, hb3⟩
  have hb4 : Below w.heap.size w w3 := hb2.trans (hb3.mono hb2.size)
  clear hb3 hb2 hx0 hx1
  go_wp2
  go_ret2
  exact RetI.nil 111 hb4
end
end Go.Proofs.Ytmdffmajnbokeaa
