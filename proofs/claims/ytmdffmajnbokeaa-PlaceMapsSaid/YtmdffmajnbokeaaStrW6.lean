/-
  The walk of the straws' heads.
-/
import Derived.Test.YtmdffmajnbokeaaStrW5
namespace Go.Proofs.Ytmdffmajnbokeaa
open Go.RowKit StrMath
set_option linter.unusedVariables false
theorem pick_heads : (pick [1, 2] [0, 5] 7 0 2).1 = 1 := by
  rw [pick_take [1, 2] [0, 5] 7 0 1 (by decide) (.inl (by rw [pick_skip [1, 2] [0, 5] 7 0 0 (by decide), pick_zero]; decide))]
  rfl
theorem ln_1 : ln 1 = 0 := by unfold ln; rw [if_neg (by omega)]; exact lnN_pow (k := 0) (by omega)
theorem ln_2 : ln 2 = 16777216 := by unfold ln; rw [if_neg (by omega)]; exact lnN_pow (k := 1) (by omega)
theorem ln_65536 : ln 65536 = 268435456 := by unfold ln; rw [if_neg (by omega)]; exact lnN_pow (k := 16) (by omega)
theorem cost_heads : cost 65535 1 = 0 := by
  unfold cost
  rw [if_neg (by omega), show ((65535 % 65536 : Nat) : Int) + 1 = 65536 from by decide, ln_65536]
  decide
theorem wf_small {x : Int} (h1 : -1000000000 ≤ x) (h2 : x ≤ 1000000000) : Lit.wf (.int .i64 x) := by
  simp only [Lit.wf, IntKind.min, IntKind.max, IntKind.signed, IntKind.bits]
  simp
  omega
theorem i64_lit {xs : List Int} (h : xs.all (fun x => decide (-1000000000 ≤ x) && decide (x ≤ 1000000000)) = true) : I64 xs := by
  intro x hx
  have := List.all_eq_true.1 h x hx
  simp at this
  omega
theorem reads_two (w : World) (t t' : TypeId) (a b : List Int) :
    Reads ((w.alloc (.cells (a.map iv).toArray t)).alloc (.cells (b.map iv).toArray t')) ((w.alloc (.cells (a.map iv).toArray t)).alloc (.cells (b.map iv).toArray t')).heap.size 1 (some ⟨w.heap.size, 0, none⟩) a.length (a.map iv) ∧
    Reads ((w.alloc (.cells (a.map iv).toArray t)).alloc (.cells (b.map iv).toArray t')) ((w.alloc (.cells (a.map iv).toArray t)).alloc (.cells (b.map iv).toArray t')).heap.size 1 (some ⟨w.heap.size + 1, 0, none⟩) b.length (b.map iv) := by
  have h1 := Reads.lit w t (a.map iv) 1 a.length (by simp)
  have h2 := Reads.lit (w.alloc (.cells (a.map iv).toArray t)) t' (b.map iv) 1 b.length (by simp)
  refine ⟨(h1.alloc (by simp) _).more (by simp), ?_⟩
  have e : (w.alloc (.cells (a.map iv).toArray t)).heap.size = w.heap.size + 1 := by simp
  rw [e] at h2
  exact h2.more (by simp)
end Go.Proofs.Ytmdffmajnbokeaa
