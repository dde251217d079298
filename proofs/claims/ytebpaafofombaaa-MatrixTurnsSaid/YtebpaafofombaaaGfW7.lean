/-
  The walks of Copy, Same (the reference's), Eval (the reference's), Products and Mix, and the reference's Mix.
-/
import Derived.Test.YtebpaafofombaaaGfW6
namespace Go.Proofs.Ytebpaafofombaaa
open Go.RowKit GfMath
theorem quiet_add_left {P : Program} {f : FuncId} {args : Array Value} {w : World} {a n : Nat} {v : Value}
    (h : Calls P f args (w.drewN (a + n)) fun e w' => e = .returned v ∧ w.drewN (a + n) = w') :
    Calls P f args (w.drewN (a + n)) fun e w'' => e = .returned v ∧ ∃ m, w'' = w.drewN (a + m) :=
  h.mono fun _ _ ⟨he, hm⟩ => ⟨he, n, hm.symm⟩
theorem Try.info5 : (Try.prog.info? 5).map (fun i => (i.zero, i.size, i.bytes)) = some (some (.int .u8 0), 1, 1) := by kernel_rfl
set_option maxRecDepth 100000 in
set_option maxHeartbeats 400000 in
theorem copy_any (A : Option Addr) (cap : Nat) (xs : List Nat) (w : World) (hr : Reads w w.heap.size 1 A xs.length (xs.map bv)) (hm : xs.length ≤ 140737488351232) :
    Calls Try.prog 23 #[.slice A xs.length cap] w (RetS 5 (xs.map bv) w) := by
  obtain ⟨i0, hi0, hz0, hz1, hz2⟩ := info_parts Try.info5
  go_enter Try.func23, Try.ntmps23
  go_wp2_with (at_builtin
               refine wpList_append_any _ rfl (.tmp 3) (.tmp 4) _ rfl w.heap.size 5 i0 _ 1 1 Try.underlying22 hi0 hz0 hz1 hz2 rfl (by omega) (.slice (some ⟨w.heap.size, 0, none⟩) 0 0) 0 [] rfl ?own (w.heap.size + 1) A xs.length cap (xs.map bv) rfl ?rd (bv_one xs) ?len ?byt ?base ?_
               case own => exact World.ownsRow_lit _ #[] 0 (Nat.le_refl _) (by unfold maxLen; omega) rfl
               case rd => exact (hr.alloc (Nat.le_refl _) _).more (by simp)
               case len => unfold maxLen; omega
               case byt => omega
               case base => simp
               intro v1 w1 hown1 hg1 hat1)
  go_ret
  refine ⟨v1, rfl, by simpa using hown1, ((Below.refl _ _).alloc (Nat.le_refl _) _).grown hg1 (by simp) (fun k hk => ?_)⟩
  simp [Value.ownBlock] at hk
  omega
set_option maxRecDepth 100000 in
set_option maxHeartbeats 400000 in
theorem same_any (A B : Option Addr) (cap cap' n m : Nat) (xs ys : List Nat) (w : World) (hx : Byt xs) (hy : Byt ys) (hr : Reads w w.heap.size 1 A n (xs.map bv)) (hr' : Reads w w.heap.size 1 B m (ys.map bv)) :
    Calls Try.prog 22 #[.slice A n cap, .slice B m cap'] w fun e w' => e = .returned (.bool (decide (xs = ys))) ∧ w = w' := by
  have h1 := run_conv_bytes (P := Try.prog) (src := 22) (dst := 9) (cap := cap) Try.underlying22 Try.underlying5 Try.underlying9 hr
  have h2 := run_conv_bytes (P := Try.prog) (src := 22) (dst := 9) (cap := cap') Try.underlying22 Try.underlying5 Try.underlying9 hr'
  have h3 := strOf_beq hx hy
  go_enter Try.func22, Try.ntmps22
  go_wp2
  go_ret
  exact ⟨rfl, rfl⟩
/-- The sum with a multiple, byte by byte. -/
def mixl (out inn : List Nat) (c : Nat) : List Nat := List.zipWith (fun o i => o ^^^ gmul i c) out inn
end Go.Proofs.Ytebpaafofombaaa
