/-
  The walks of OctetOne where no bytes, or no number can be read.
-/
import Derived.Test.YthdmnmpdmniaaaaOctW7
import Derived.Test.YthdmnmpdmniaaaaOctOneM
import Derived.Test.YthdmnmpdmniaaaaLib2
import Derived.StillTailTactics
namespace Go.Proofs.Ythdmnmpdmniaaaa
open Go.RowKit OctMath
set_option linter.unusedVariables false
theorem undrew' {B : Nat} {a w : World} (h : Below B a.drew w) : Below B a w := ⟨h.os, h.tape, h.output, h.size, h.block⟩
set_option maxRecDepth 100000 in
set_option maxHeartbeats 8000000 in
theorem one_none (A : Option Addr) (cap n : Nat) (at_ : Int) (bs : List Nat) (w : World) (hb : Byt bs) (hn : bs.length = n) (hr : Reads w w.heap.size 1 A n (bs.map bv)) (hc : n ≤ cap) (hm : cap ≤ maxLen) (hn2 : n ≤ 140737488351232) (E0 : (rdN bs at_).2.2 ≠ 0) :
    Calls Try.prog 5 #[.slice A n cap, .int .i64 at_] w fun e w' => e = .returned (.bool true) ∧ Below w.heap.size w w' := by
  have hB : rdB bs at_ n = ([], 0, (rdN bs at_).2.2) := by unfold rdB; simp only; rw [if_pos E0]
  have hb0 : ∀ W, Reads W W.heap.size 1 A n (bs.map bv) → Calls Try.prog 14 #[.slice A n cap, .int .i64 at_, .int .i64 (n : Int)] W (RetB3 (rdB bs at_ n) W) := fun W h => bytes_any A cap n at_ (n : Int) bs W hb hn h hc hm hn2 (by omega)
  have hi0 : ∀ W, Reads W W.heap.size 1 A n (bs.map bv) → Calls Try.prog 16 #[.slice A n cap, .int .i64 at_] W fun e w' => e = .returned (.tuple #[.int .i64 (unz (rdN bs at_).1), .int .i64 (rdN bs at_).2.1, .int .i64 (rdN bs at_).2.2]) ∧ W = w' := fun W h => int_any A cap n at_ bs W hb hn h hc hm
  have hn0 := number_any A cap n at_ bs w hb hn hr hc hm
  rw [hB] at hb0
  generalize rdN bs at_ = T at hn0 hi0 hb0 E0
  obtain ⟨V, P, E⟩ := T
  simp only at hn0 hi0 hb0 E0
  obtain ⟨I, eI⟩ : ∃ I, unz V = I := ⟨_, rfl⟩
  rw [eI] at hi0
  have HN := Lib.hid hn0
  have HB := Lib.hid hb0
  have HI := Lib.hid hi0
  have HR := Lib.hid hr
  have d1 : ((E : Int) == 0) = false := by simpa using E0
  have d2 : (E == 0) = false := by simpa using E0
  have d3 : ((E : Int) != 0) = true := by simpa using E0
  have d4 : (E != 0) = true := by simpa using E0
  clear hn0 hb0 hi0 hr eI hB
  go_enter Try.func5, Try.ntmps5
  go_wp2_with fail
  refine HN.out.mono ?_
  rintro e w' ⟨rfl, rfl⟩
  go_wp2_with fail
  go_quiet (fail)
  go_wp2_with fail
  have hq : Below w.heap.size w (w.drewN nq) := bel_drewN (Below.refl _ _) _
  revert hq
  generalize w.drewN nq = wq
  intro hq
  refine (HB.out _ ((HR.out.below hq).more hq.size)).mono ?_
  rintro e wb ⟨A7, n7, c7, rfl, hr7, hc7, hm7, hb7⟩
  obtain rfl : n7 = 0 := by simpa using hr7.1.symm
  have hb8 : Below w.heap.size w wb := hq.trans (hb7.mono hq.size)
  clear hr7 hb7 hq
  go_wp2_with fail
  go_quiet (fail)
  go_wp2_with fail
  have hb9 : Below w.heap.size w (wb.drewN nq) := bel_drewN hb8 _
  revert hb9
  generalize wb.drewN nq = wr
  intro hb9
  clear hb8
  refine (HI.out _ ((HR.out.below hb9).more hb9.size)).mono ?_
  rintro e w' ⟨rfl, rfl⟩
  go_wp2_with fail
  refine wp_region_class (fun w' => Below w.heap.size w w') (by kernel_rfl) (by kernel_rfl) (bel_drewN hb9 1) ?_
  repeat (first
    | go_big_quiet_skip
    | (go_big_quiet_want; go_big_quiet_op; first
        | go_big_quiet_on
        | (refine ⟨_, fun _ _ => rfl, ?_⟩; go_big_quiet_on)
        | (refine ⟨.bool true, fun w' hw' => ?_, ?_⟩
           · go_at_call 8
             exact (heads_any _).mono (fun e w'' h => ⟨h.1, hw'.trans (h.2.mono hw'.size)⟩)
           go_big_quiet_on)))
  refine wpQuiet_nil ?_
  intro w' hw'
  go_wp2
  go_ret
  exact ⟨rfl, hw'⟩
end Go.Proofs.Ythdmnmpdmniaaaa
