/-
  THE REFERENCE'S WRITER: what it begins with, and what was written. (lines of PenW3 that serve every seat)
-/
import Derived.Test.YthgiafjiemiifaaPenW2
namespace Go.Proofs.Ythgiafjiemiifaa
open Go.RowKit OctMath
set_option linter.unusedVariables false
section
variable {P : Program} {l : List Oper} {md : Region.Mode} {Q : Exit → Act → World → Prop} {S0 S S0' S' : World → Prop} {s : Nat}
theorem wpAnyT_mono (h0 : ∀ w, S0' w → S0 w) (h1 : ∀ w, S' w → S w) : ∀ (fuel : Nat) (listed : Array Bool) (a : Act) (w : World), wpAnyT P md l Q S0' S' s fuel listed a w → wpAnyT P md l Q S0 S s fuel listed a w
  | 0, _, _, _, h => h
  | fuel + 1, _, _, _, h => ⟨h.1, fun i hi => wpOp_mono (fun a' w' h' => ⟨⟨h0 _ h'.1.1, fun q => h1 _ (h'.1.2 q)⟩, wpAnyT_mono h0 h1 fuel _ a' w' h'.2⟩) (h.2 i hi)⟩
end
/-- Bytes that come back. -/
def RetO (ys : List Nat) (w : World) (e : Ending) (w' : World) : Prop := ∃ A cap, e = .returned (.slice A ys.length cap) ∧ Reads w' w'.heap.size 1 A ys.length (ys.map bv) ∧ Below w.heap.size w w'
set_option maxRecDepth 100000 in
set_option maxHeartbeats 400000 in
theorem pen_writer (A : Option Addr) (n cap : Nat) (xs : List Nat) (w : World) (hr : Reads w w.heap.size 1 A n (xs.map bv)) (hm : n ≤ 140737488351232) :
    Calls Try.prog 68 #[.slice A n cap] w (fun e w' => ∃ g, e = .returned (.pointer (some ⟨g, 0, none⟩)) ∧ w.heap.size ≤ g ∧ Below w.heap.size w w' ∧ Pen (fun k => k < w.heap.size) g xs w') := by
  have hn : xs.length = n := by simpa using hr.1
  go_enter Try.func68, Try.ntmps68
  go_wp2_with (at_builtin
               refine wpl_append rfl (.tmp 3) (.tmp 4) _ rfl w w.heap.size 5 _ 1 1 Try.underlying22 Try.infoU8 rfl (by decide) (.slice (some ⟨w.heap.size, 0, none⟩) 0 0) 0 [] rfl ?own (w.heap.size + 1) A n cap (xs.map bv) rfl ?rd (bv_one xs) (by omega) (by decide) ?bel ?base ?_
               case own => exact World.ownsRow_lit _ #[] 0 (Nat.le_refl _) (by unfold maxLen; omega) rfl
               case rd => exact (hr.alloc (Nat.le_refl _) _).more (by simp)
               case bel => exact (Below.refl _ _).alloc (Nat.le_refl _) _
               case base => simp
               intro v1 w1 hh
               obtain ⟨PA, pn, pc, rfl⟩ : ∃ PA pn pc, v1 = .slice PA pn pc := (by obtain ⟨x, y, e, _⟩ := own_slice hh.out.1; exact ⟨_, _, _, e⟩))
  go_ret
  obtain ⟨h1, h2, h3⟩ := hh.out
  refine ⟨w1.heap.size, rfl, h3, h2.alloc h3 _, ⟨_, Blk.new _ _ _, ?_, fun e => by have := (h1.lt _ e).2; omega, fun k hk e => by have := (h1.lt _ e).1; omega⟩⟩
  have h := own_baseO h1 (Nat.zero_le _)
  rw [hn]
  simpa using h.alloc _
end Go.Proofs.Ythgiafjiemiifaa
