/-
  PLAIN LAWS of matrices over the field of 256 elements: sums, products, row steps, what Gauss and Jordan come to. No program in sight.
-/
import Derived.Test.YtebpaafofombaaaGfMath
namespace Go.Proofs.Ytebpaafofombaaa.MxMath
open GfMath
set_option linter.unusedVariables false
/-- An element of the field. -/
structure El where
  v : Nat
  lt : v < 256
theorem El.ext' {a b : El} (h : a.v = b.v) : a = b := by
  cases a; cases b; simp only at h; subst h; rfl
instance : Zero El := ⟨⟨0, by omega⟩⟩
instance : One El := ⟨⟨1, by omega⟩⟩
instance : Add El := ⟨fun a b => ⟨a.v ^^^ b.v, xor_lt a.lt b.lt⟩⟩
instance : Mul El := ⟨fun a b => ⟨gmul a.v b.v, gmul_lt a.lt⟩⟩
def inv (a : El) : El := ⟨gdiv 1 a.v, gdiv_lt 1 a.v⟩
theorem inv_v (a : El) : (inv a).v = gdiv 1 a.v := by simp only [inv]
theorem add_v (a b : El) : (a + b).v = a.v ^^^ b.v := rfl
theorem mul_v (a b : El) : (a * b).v = gmul a.v b.v := rfl
theorem zero_v : (0 : El).v = 0 := rfl
theorem one_v : (1 : El).v = 1 := rfl
theorem addC (a b : El) : a + b = b + a := El.ext' (Nat.xor_comm _ _)
theorem addA (a b c : El) : a + b + c = a + (b + c) := El.ext' (Nat.xor_assoc _ _ _)
theorem add0 (a : El) : a + 0 = a := El.ext' (Nat.xor_zero _)
theorem zadd (a : El) : 0 + a = a := El.ext' (Nat.zero_xor _)
theorem addS (a : El) : a + a = 0 := El.ext' (Nat.xor_self _)
theorem mulC (a b : El) : a * b = b * a := El.ext' (gmul_comm a.lt b.lt)
theorem mulA (a b c : El) : a * b * c = a * (b * c) := El.ext' (gmul_assoc a.lt b.lt c.lt).symm
theorem mul1 (a : El) : a * 1 = a := El.ext' (gmul_one a.lt)
theorem omul (a : El) : 1 * a = a := by rw [mulC, mul1]
theorem mul0 (a : El) : a * 0 = 0 := El.ext' (gmul_zero a.v)
theorem zmul (a : El) : 0 * a = 0 := by rw [mulC, mul0]
theorem mulD (a b c : El) : a * (b + c) = a * b + a * c := El.ext' (gmul_xor _ _ _)
theorem addM (a b c : El) : (a + b) * c = a * c + b * c := by rw [mulC, mulD, mulC c a, mulC c b]
theorem add4 (a b c d : El) : (a + b) + (c + d) = (a + c) + (b + d) := by
  rw [addA, addA, ← addA b c d, addC b c, addA c b d]
theorem inv_mul {a : El} (h : a ≠ 0) : inv a * a = 1 := by
  have h0 : a.v ≠ 0 := fun e => h (El.ext' e)
  have := gdiv_mul (a := 1) (by omega) a.lt h0
  refine El.ext' ?_
  rw [mul_v, one_v, inv_v, this]
theorem mul_inv {a : El} (h : a ≠ 0) : a * inv a = 1 := by rw [mulC]; exact inv_mul h
theorem inv_ne {a : El} (h : a ≠ 0) : inv a ≠ 0 := fun e => by
  have := inv_mul h
  rw [e, zmul] at this
  have h2 := congrArg El.v this
  exact absurd h2 (by decide)
theorem one_ne : (1 : El) ≠ 0 := fun e => absurd (congrArg El.v e) (by decide)
theorem mul_ne {a b : El} (ha : a ≠ 0) (hb : b ≠ 0) : a * b ≠ 0 := fun e => by
  have : inv a * (a * b) = 0 := by rw [e, mul0]
  rw [← mulA, inv_mul ha, omul] at this
  exact hb this
theorem add_eq_zero {a b : El} (h : a + b = 0) : a = b := by
  have : a + b + b = b := by rw [h, zadd]
  rw [addA, addS, add0] at this
  exact this
/-! ### Sums -/
def fsum : Nat → (Nat → El) → El
  | 0, _ => 0
  | n + 1, f => fsum n f + f n
theorem fsum_congr {n : Nat} {f g : Nat → El} (h : ∀ k, k < n → f k = g k) : fsum n f = fsum n g := by
  induction n with
  | zero => rfl
  | succ n ih => rw [fsum, fsum, ih fun k hk => h k (by omega), h n (by omega)]
theorem fsum_zero (n : Nat) : fsum n (fun _ => 0) = 0 := by
  induction n with
  | zero => rfl
  | succ n ih => rw [fsum, ih, add0]
theorem fsum_add (n : Nat) (f g : Nat → El) : fsum n (fun k => f k + g k) = fsum n f + fsum n g := by
  induction n with
  | zero => rw [fsum, fsum, fsum, add0]
  | succ n ih => rw [fsum, fsum, fsum, ih, add4]
theorem fsum_mul (n : Nat) (a : El) (f : Nat → El) : fsum n (fun k => a * f k) = a * fsum n f := by
  induction n with
  | zero => rw [fsum, fsum, mul0]
  | succ n ih => rw [fsum, fsum, ih, mulD]
theorem mul_fsum (n : Nat) (a : El) (f : Nat → El) : fsum n (fun k => f k * a) = fsum n f * a := by
  rw [mulC, ← fsum_mul]
  exact fsum_congr fun k _ => mulC _ _
theorem fsum_swap (n m : Nat) (f : Nat → Nat → El) : fsum n (fun i => fsum m fun j => f i j) = fsum m (fun j => fsum n fun i => f i j) := by
  induction n with
  | zero => rw [fsum]; exact (fsum_zero m).symm
  | succ n ih =>
    rw [fsum, ih, ← fsum_add]
    exact fsum_congr fun j _ => rfl
def dl (i j : Nat) : El := if i = j then 1 else 0
theorem fsum_dl (n i : Nat) (hi : i < n) (f : Nat → El) : fsum n (fun k => dl i k * f k) = f i := by
  induction n with
  | zero => omega
  | succ n ih =>
    rw [fsum]
    by_cases h : i = n
    · subst h
      have : fsum i (fun k => dl i k * f k) = 0 := by
        rw [← fsum_zero i]
        exact fsum_congr fun k hk => by unfold dl; rw [if_neg (by omega), zmul]
      rw [this, zadd]
      unfold dl
      rw [if_pos rfl, omul]
    · rw [ih (by omega)]
      unfold dl
      rw [if_neg h, zmul, add0]
theorem dl_symm (i j : Nat) : dl i j = dl j i := by
  unfold dl
  by_cases h : i = j
  · rw [if_pos h, if_pos h.symm]
  · rw [if_neg h, if_neg fun e => h e.symm]
theorem fsum_dl' (n i : Nat) (hi : i < n) (f : Nat → El) : fsum n (fun k => f k * dl k i) = f i := by
  rw [← fsum_dl n i hi f]
  exact fsum_congr fun k _ => by rw [mulC, dl_symm]
/-! ### Matrices -/
abbrev Mat := Nat → Nat → El
/-- The product over n inner places. -/
def mm (n : Nat) (A B : Mat) : Mat := fun i j => fsum n fun k => A i k * B k j
def EqOn (r c : Nat) (A B : Mat) : Prop := ∀ i j, i < r → j < c → A i j = B i j
theorem EqOn.refl (r c : Nat) (A : Mat) : EqOn r c A A := fun _ _ _ _ => rfl
theorem EqOn.symm {r c : Nat} {A B : Mat} (h : EqOn r c A B) : EqOn r c B A := fun i j hi hj => (h i j hi hj).symm
theorem EqOn.trans {r c : Nat} {A B C : Mat} (h : EqOn r c A B) (h' : EqOn r c B C) : EqOn r c A C := fun i j hi hj => (h i j hi hj).trans (h' i j hi hj)
theorem mm_assoc (n m : Nat) (A B C : Mat) (i j : Nat) : mm m (mm n A B) C i j = mm n A (mm m B C) i j := by
  show fsum m (fun k => fsum n (fun l => A i l * B l k) * C k j) = fsum n (fun l => A i l * fsum m fun k => B l k * C k j)
  rw [fsum_congr (g := fun k => fsum n fun l => A i l * B l k * C k j) fun k _ => (mul_fsum n _ _).symm]
  rw [fsum_swap]
  refine fsum_congr fun l _ => ?_
  rw [← fsum_mul]
  exact fsum_congr fun k _ => mulA _ _ _
theorem mm_congr {n r c : Nat} {A A' B B' : Mat} (h : EqOn r n A A') (h' : EqOn n c B B') : EqOn r c (mm n A B) (mm n A' B') := fun i j hi hj =>
  fsum_congr fun k hk => by rw [h i k hi hk, h' k j hk hj]
theorem mm_one (n : Nat) (A : Mat) (i j : Nat) (hj : j < n) : mm n A dl i j = A i j := fsum_dl' n j hj fun k => A i k
theorem one_mm (n : Nat) (A : Mat) (i j : Nat) (hi : i < n) : mm n dl A i j = A i j := fsum_dl n i hi fun k => A k j
/-! ### Row steps -/
/-- Row i becomes a multiple of row p i and a multiple of row q i. -/
structure RStep where
  a : Nat → El
  p : Nat → Nat
  b : Nat → El
  q : Nat → Nat
def RStep.act (s : RStep) (M : Mat) : Mat := fun i j => s.a i * M (s.p i) j + s.b i * M (s.q i) j
def RStep.ok (s : RStep) (n : Nat) : Prop := ∀ i, i < n → s.p i < n ∧ s.q i < n
theorem act_mm (s : RStep) (n : Nat) (A B : Mat) (i j : Nat) : s.act (mm n A B) i j = mm n (s.act A) B i j := by
  show s.a i * fsum n (fun k => A (s.p i) k * B k j) + s.b i * fsum n (fun k => A (s.q i) k * B k j) = fsum n (fun k => (s.a i * A (s.p i) k + s.b i * A (s.q i) k) * B k j)
  rw [← fsum_mul, ← fsum_mul, ← fsum_add]
  exact fsum_congr fun k _ => by rw [addM, mulA, mulA]
theorem act_congr {s : RStep} {n c : Nat} (hs : s.ok n) {A B : Mat} (h : EqOn n c A B) : EqOn n c (s.act A) (s.act B) := fun i j hi hj => by
  show s.a i * A (s.p i) j + s.b i * A (s.q i) j = s.a i * B (s.p i) j + s.b i * B (s.q i) j
  rw [h _ j (hs i hi).1 hj, h _ j (hs i hi).2 hj]
/-- t undoes s. -/
def Undoes (n : Nat) (s t : RStep) : Prop := s.ok n ∧ t.ok n ∧ ∀ (M : Mat) i j, i < n → t.act (s.act M) i j = M i j ∧ s.act (t.act M) i j = M i j
def swp (x y : Nat) : RStep := ⟨fun _ => 1, fun i => if i = x then y else if i = y then x else i, fun _ => 0, fun i => i⟩
def scl (x : Nat) (c : El) : RStep := ⟨fun i => if i = x then c else 1, fun i => i, fun _ => 0, fun i => i⟩
/-- Row x, times c i, is added to each row i but x itself. -/
def clr (x : Nat) (c : Nat → El) : RStep := ⟨fun _ => 1, fun i => i, fun i => if i = x then 0 else c i, fun _ => x⟩
theorem swp_act (x y : Nat) (M : Mat) (i j : Nat) : (swp x y).act M i j = M (if i = x then y else if i = y then x else i) j := by
  show 1 * M _ j + 0 * M i j = _
  rw [omul, zmul, add0]; rfl
theorem scl_act (x : Nat) (c : El) (M : Mat) (i j : Nat) : (scl x c).act M i j = if i = x then c * M i j else M i j := by
  show (if i = x then c else 1) * M i j + 0 * M i j = _
  rw [zmul, add0]
  split
  · rfl
  · rw [omul]
theorem clr_act (x : Nat) (c : Nat → El) (M : Mat) (i j : Nat) : (clr x c).act M i j = if i = x then M i j else M i j + c i * M x j := by
  show 1 * M i j + (if i = x then 0 else c i) * M x j = _
  rw [omul]
  split
  · rw [zmul, add0]
  · rfl
theorem swp_undo {n x y : Nat} (hx : x < n) (hy : y < n) : Undoes n (swp x y) (swp x y) := by
  have ok : (swp x y).ok n := fun i hi => ⟨by show (if i = x then y else if i = y then x else i) < n; split; exact hy; split; exact hx; exact hi, hi⟩
  have key : ∀ (M : Mat) i j, (swp x y).act ((swp x y).act M) i j = M i j := fun M i j => by
    rw [swp_act, swp_act]
    by_cases h1 : i = x
    · rw [if_pos h1]
      by_cases h2 : y = x
      · rw [if_pos h2, h2, h1]
      · rw [if_neg h2, if_pos rfl, h1]
    · rw [if_neg h1]
      by_cases h2 : i = y
      · rw [if_pos h2, if_pos rfl, h2]
      · rw [if_neg h2, if_neg h1, if_neg h2]
  exact ⟨ok, ok, fun M i j _ => ⟨key M i j, key M i j⟩⟩
theorem scl_undo {n x : Nat} {c : El} (hc : c ≠ 0) : Undoes n (scl x c) (scl x (inv c)) := by
  refine ⟨fun i hi => ⟨hi, hi⟩, fun i hi => ⟨hi, hi⟩, fun M i j _ => ⟨?_, ?_⟩⟩
  · rw [scl_act, scl_act]
    split
    · rw [← mulA, inv_mul hc, omul]
    · rfl
  · rw [scl_act, scl_act]
    split
    · rw [← mulA, mul_inv hc, omul]
    · rfl
theorem clr_undo {n x : Nat} (hx : x < n) (c : Nat → El) : Undoes n (clr x c) (clr x c) := by
  have ok : (clr x c).ok n := fun i hi => ⟨hi, hx⟩
  have key : ∀ (M : Mat) i j, (clr x c).act ((clr x c).act M) i j = M i j := fun M i j => by
    rw [clr_act, clr_act, clr_act, if_pos rfl]
    by_cases h : i = x
    · rw [if_pos h, if_pos h]
    · rw [if_neg h, if_neg h, addA, addS, add0]
  exact ⟨ok, ok, fun M i j _ => ⟨key M i j, key M i j⟩⟩
/-- T has an inverse, over n rows and columns. -/
def Unit_ (n : Nat) (T : Mat) : Prop := ∃ T', EqOn n n (mm n T' T) dl ∧ EqOn n n (mm n T T') dl
theorem unit_one (n : Nat) : Unit_ n dl := ⟨dl, fun i j hi hj => mm_one n dl i j hj, fun i j hi hj => mm_one n dl i j hj⟩
theorem unit_act {n : Nat} {s t : RStep} (h : Undoes n s t) {T : Mat} (hT : Unit_ n T) : Unit_ n (s.act T) := by
  obtain ⟨T', h1, h2⟩ := hT
  obtain ⟨os, ot, hu⟩ := h
  refine ⟨mm n T' (t.act dl), fun i j hi hj => ?_, fun i j hi hj => ?_⟩
  · rw [mm_assoc]
    rw [← h1 i j hi hj]
    refine mm_congr (EqOn.refl n n T') (fun a b ha hb => ?_) i j hi hj
    have e : mm n (t.act dl) (s.act T) a b = t.act (mm n dl (s.act T)) a b := (act_mm t n dl _ a b).symm
    rw [e]
    have e2 := act_congr ot (c := n) (fun a b ha hb => one_mm n (s.act T) a b ha) a b ha hb
    rw [e2]
    exact (hu T a b ha).1
  · rw [← mm_assoc]
    have e : EqOn n n (mm n (s.act T) T') (s.act dl) := fun a b ha hb => by
      rw [← act_mm]
      exact act_congr os h2 a b ha hb
    rw [mm_congr e (EqOn.refl n n (t.act dl)) i j hi hj, ← act_mm]
    have e2 := act_congr os (c := n) (fun a b ha hb => one_mm n (t.act dl) a b ha) i j hi hj
    rw [e2]
    exact (hu dl i j hi).2
end Go.Proofs.Ytebpaafofombaaa.MxMath
