/-
  The walks of Eval (bytes that a slice reads as) and of heads.
-/
import Derived.Test.YtebpaafofombaaaGfW4
namespace Go.Proofs.Ytebpaafofombaaa
open Go.RowKit GfMath
/-- A polynomial at an element. -/
def evl (xs : List Nat) (x : Nat) : Nat := xs.foldl (fun r c => gmul r x ^^^ c) 0
theorem evl_snoc (xs : List Nat) (c x : Nat) : evl (xs ++ [c]) x = gmul (evl xs x) x ^^^ c := by simp [evl]
theorem evl_lt {xs : List Nat} (h : Byt xs) (x : Nat) : evl xs x < 256 := by
  unfold evl
  suffices H : ∀ (l : List Nat) (r : Nat), Byt l → r < 256 → l.foldl (fun r c => gmul r x ^^^ c) r < 256 from H xs 0 h (by omega)
  intro l
  induction l with
  | nil => intro r _ hr; exact hr
  | cons c l ih =>
    intro r hl hr
    exact ih _ (fun y hy => hl y (List.mem_cons_of_mem _ hy)) (xor_lt (gmul_lt hr) (hl c (List.mem_cons_self ..)))
theorem evl_take (xs : List Nat) (x k : Nat) (hk : k < xs.length) : evl (xs.take (k + 1)) x = gmul (evl (xs.take k) x) x ^^^ xs[k] := by
  rw [List.take_succ_eq_append_getElem hk, evl_snoc]
theorem c_div : ((gdiv 1 2 : Nat) : Int) = 142 := by decide +kernel
theorem c_lg : ((lg 29 : Nat) : Int) = 8 := by decide +kernel
theorem c_m1 : ((gmul 2 128 : Nat) : Int) = 29 := by decide +kernel
theorem c_m2 : ((gmul 3 7 : Nat) : Int) = 9 := by decide +kernel
theorem c_e : ((E ((8 : Int) % 255).toNat : Nat) : Int) = 29 := by decide +kernel
theorem c_ev : ((evl [1, 0, 3] 2 : Nat) : Int) = 7 := by decide +kernel
end Go.Proofs.Ytebpaafofombaaa
