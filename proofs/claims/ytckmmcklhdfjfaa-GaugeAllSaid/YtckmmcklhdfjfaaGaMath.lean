/-
  Floats up to the bits of a NaN: what an operation gives is a function of the operands' classes.
-/
import Derived.Test.YtckmmcklhdfjfaaLib
import Derived.Laws.FloatArith
namespace Go.Proofs.Ytckmmcklhdfjfaa
open Go.RowKit
set_option linter.unusedVariables false
def nanb (x : Nat) : Bool := FloatKind.f64.format.order x x != some .eq
def cls (x : Nat) : Option Nat := if nanb x then none else some x
theorem order_none_left {x y : Nat} (h : (FloatKind.f64.format.read x).isNaN = true) : FloatKind.f64.format.order x y = none := by
  unfold Ieee.Format.order
  revert h
  cases (FloatKind.f64.format.read x) <;> simp [Ieee.Datum.isNaN, Ieee.Datum.order]
theorem order_self {x : Nat} (h : (FloatKind.f64.format.read x).isNaN = false) : FloatKind.f64.format.order x x = some .eq := by
  unfold Ieee.Format.order
  revert h
  cases (FloatKind.f64.format.read x) with
  | number s m i => intro _; simp only [Ieee.Datum.order]; congr 1; exact Int.compare_eq_eq.2 rfl
  | infinity s => intro _; simp only [Ieee.Datum.order]; congr 1; exact Nat.compare_eq_eq.2 rfl
  | nan s t => intro h; cases h
theorem nanb_eq (x : Nat) : nanb x = (FloatKind.f64.format.read x).isNaN := by
  unfold nanb
  cases h : (FloatKind.f64.format.read x).isNaN
  · rw [order_self h]; rfl
  · rw [order_none_left h]; rfl
theorem cls_nan {x : Nat} (h : nanb x = true) : cls x = none := by unfold cls; rw [h]; rfl
theorem cls_num {x : Nat} (h : nanb x = false) : cls x = some x := by unfold cls; rw [h]; rfl
theorem cls_eq {x y : Nat} (h : cls x = cls y) : x = y ∨ nanb x = true ∧ nanb y = true := by
  cases hx : nanb x <;> cases hy : nanb y
  · rw [cls_num hx, cls_num hy] at h; exact .inl (Option.some.inj h)
  · rw [cls_num hx, cls_nan hy] at h; cases h
  · rw [cls_nan hx, cls_num hy] at h; cases h
  · exact .inr ⟨rfl, rfl⟩
def fop (op : BinOp) (a b : Option Nat) : Option Nat :=
  match a, b with
  | some x, some y => (floatBits op .f64 x y).bind cls
  | _, _ => none
theorem floatBits_nan {op : BinOp} {x y : Nat} (h : nanb x = true ∨ nanb y = true) : floatBits op .f64 x y = none := by
  rw [nanb_eq, nanb_eq] at h
  unfold floatBits Ieee.Format.add Ieee.Format.sub Ieee.Format.mul Ieee.Format.div
  generalize FloatKind.f64.format.read x = a at h
  generalize FloatKind.f64.format.read y = b at h
  cases op <;> first | rfl | (cases a <;> cases b <;> first | rfl | (exfalso; rcases h with h | h <;> cases h))
theorem fop_cls (op : BinOp) (x y : Nat) : (floatBits op .f64 x y).bind cls = fop op (cls x) (cls y) := by
  cases hx : nanb x
  · cases hy : nanb y
    · rw [cls_num hx, cls_num hy]; rfl
    · rw [cls_num hx, cls_nan hy, floatBits_nan (.inr hy)]; rfl
  · rw [cls_nan hx, floatBits_nan (.inl hx)]; rfl
theorem nan_cut (k : FloatKind) (x y t : Nat) (hk : k = .f64) : nanb (Question.cut (.nanBits k x y) t) = true ∧ Question.cut (.nanBits k x y) t < 2 ^ 64 := by
  subst hk
  have hr : t / 2 % (2 ^ 52 - 1) < 2 ^ 52 - 1 := Nat.mod_lt _ (by decide)
  have hs : t % 2 < 2 := Nat.mod_lt _ (by decide)
  show nanb ((t % 2) * 2 ^ 63 + 0x7ff0000000000000 + 1 + (t / 2) % (2 ^ 52 - 1)) = true ∧ (t % 2) * 2 ^ 63 + 0x7ff0000000000000 + 1 + (t / 2) % (2 ^ 52 - 1) < 2 ^ 64
  generalize t / 2 % (2 ^ 52 - 1) = r at hr
  generalize t % 2 = s at hs
  refine ⟨?_, by omega⟩
  rw [nanb_eq]
  unfold Ieee.Format.read
  have e1 : FloatKind.f64.format.signWeight = 2 ^ 63 := by decide
  have e2 : FloatKind.f64.format.binade = 2 ^ 52 := by decide
  have e3 : FloatKind.f64.format.infRung = 0x7ff0000000000000 := by decide
  rw [e1, e2, e3]
  have e4 : (s * 2 ^ 63 + 0x7ff0000000000000 + 1 + r) % 2 ^ 63 = 0x7ff0000000000000 + 1 + r := by omega
  rw [e4]
  dsimp only
  rw [if_neg (by omega), if_neg (by omega), if_neg (by omega)]
  rfl
section
variable {P : Program}
/-- Whatever the operands: a float comes, its class that of the operands' classes. -/
theorem run_float_any (op : BinOp) (hop : op = .add ∨ op = .sub ∨ op = .mul ∨ op = .quo) (t : TypeId) (x y : Nat) (w : World) :
    ∃ r d, (binOp op t (.float .f64 x) (.float .f64 y)).run P w = .ok (.float .f64 r) (w.drewN d) ∧ cls r = fop op (cls x) (cls y) ∧ r < 2 ^ 64 := by
  cases h : floatBits op .f64 x y with
  | some r =>
    refine ⟨r, 0, run_float_arith w op t .f64 x y r h, ?_, by simpa [Lit.wf] using floatBits_wf h⟩
    rw [← fop_cls, h]; rfl
  | none =>
    refine ⟨_, 1, ?_, ?_, (nan_cut .f64 x y (w.tape w.drawn (.nanBits .f64 x y)) rfl).2⟩
    · have hq : (Question.nanBits .f64 x y).forced = false := rfl
      unfold floatBits at h
      rcases hop with rfl | rfl | rfl | rfl <;> simp only at h <;> simp [binOp, Op.floatArith, h, hq] <;> rfl
    · rw [← fop_cls, h, cls_nan (nan_cut .f64 x y _ rfl).1]; rfl
end
/-- What a call that answers a float hands back. -/
def RetF (c : Option Nat) (w : World) (e : Ending) (w' : World) : Prop := ∃ r d, e = .returned (.float .f64 r) ∧ cls r = c ∧ r < 2 ^ 64 ∧ w' = w.drewN d
def fsum (l : List Nat) : Option Nat := l.foldl (fun s x => fop .add s (cls x)) (cls 0)
theorem fsum_snoc (l : List Nat) (x : Nat) : fsum (l ++ [x]) = fop .add (fsum l) (cls x) := by unfold fsum; rw [List.foldl_append]; rfl
def ratio (a b : Option Nat) : Option Nat := fop .quo a b
def fl (n : Int) : Nat := floatOfInt .f64 n
theorem fl_lt (n : Int) : fl n < 2 ^ 64 := by simpa [Lit.wf, fl] using floatOfInt_wf .f64 n
def mean (l : List Nat) : Option Nat := ratio (fsum l) (cls (fl l.length))
end Go.Proofs.Ytckmmcklhdfjfaa
