/-
  The plain law of the stable sort: rearrangements, rotations, what a merge in place makes of two sorted halves.
-/
import Derived.Test.YtckmmcklhdfjfaaGaS1
namespace Go.Proofs.Ytckmmcklhdfjfaa
open Go.RowKit
set_option linter.unusedVariables false
/-- Not behind. -/
def Le (l : List Nat) (x y : Nat) : Prop := ¬ cfl l y x < 0
theorem Le.refl (l : List Nat) (x : Nat) : Le l x x := fun h => compF_asym h h
theorem Le.trans {l : List Nat} {x y z : Nat} (h : Le l x y) (h' : Le l y z) : Le l x z := compF_le_trans h h'
theorem Le.of_lt {l : List Nat} {x y : Nat} (h : cfl l x y < 0) : Le l x y := compF_asym h
/-- The places from a to b (without it) hold the same things as before, in another order. -/
structure Rearr (f f' : Nat → Nat) (a b : Nat) : Prop where
  out : ∀ i, i < a ∨ b ≤ i → f' i = f i
  inn : ∀ i, a ≤ i → i < b → ∃ j, a ≤ j ∧ j < b ∧ f' i = f j
  inj : (∀ i j, a ≤ i → i < b → a ≤ j → j < b → f i = f j → i = j) → ∀ i j, a ≤ i → i < b → a ≤ j → j < b → f' i = f' j → i = j
theorem Rearr.refl (f : Nat → Nat) (a b : Nat) : Rearr f f a b := ⟨fun _ _ => rfl, fun i h1 h2 => ⟨i, h1, h2, rfl⟩, fun h => h⟩
theorem Rearr.trans {f g h : Nat → Nat} {a b : Nat} (p : Rearr f g a b) (q : Rearr g h a b) : Rearr f h a b := by
  refine ⟨fun i hi => (q.out i hi).trans (p.out i hi), fun i h1 h2 => ?_, fun hf => q.inj (p.inj hf)⟩
  obtain ⟨j, j1, j2, e⟩ := q.inn i h1 h2
  obtain ⟨k, k1, k2, e'⟩ := p.inn j j1 j2
  exact ⟨k, k1, k2, e.trans e'⟩
theorem Rearr.wider {f g : Nat → Nat} {a b a' b' : Nat} (p : Rearr f g a b) (ha : a' ≤ a) (hb : b ≤ b') : Rearr f g a' b' := by
  refine ⟨fun i hi => p.out i (by omega), fun i h1 h2 => ?_, fun hf i j i1 i2 j1 j2 e => ?_⟩
  · by_cases hi : a ≤ i ∧ i < b
    · obtain ⟨j, j1, j2, e⟩ := p.inn i hi.1 hi.2
      exact ⟨j, by omega, by omega, e⟩
    · exact ⟨i, h1, h2, p.out i (by omega)⟩
  · by_cases hi : a ≤ i ∧ i < b
    · by_cases hj : a ≤ j ∧ j < b
      · exact p.inj (fun i j i1 i2 j1 j2 => hf i j (by omega) (by omega) (by omega) (by omega)) i j hi.1 hi.2 hj.1 hj.2 e
      · obtain ⟨k, k1, k2, ek⟩ := p.inn i hi.1 hi.2
        rw [ek, p.out j (by omega)] at e
        have := hf k j (by omega) (by omega) (by omega) (by omega) e
        omega
    · by_cases hj : a ≤ j ∧ j < b
      · obtain ⟨k, k1, k2, ek⟩ := p.inn j hj.1 hj.2
        rw [ek, p.out i (by omega)] at e
        have := hf i k (by omega) (by omega) (by omega) (by omega) e
        omega
      · rw [p.out i (by omega), p.out j (by omega)] at e
        exact hf i j i1 i2 j1 j2 e
theorem Rearr.lies {f g : Nat → Nat} {a b n : Nat} (p : Rearr f g a b) (hb : b ≤ n) (h : Lies n f) : Lies n g := by
  intro i hi
  by_cases hin : a ≤ i ∧ i < b
  · obtain ⟨j, j1, j2, e⟩ := p.inn i hin.1 hin.2
    rw [e]; exact h j (by omega)
  · rw [p.out i (by omega)]; exact h i hi
theorem swp_at (f : Nat → Nat) (i j k : Nat) : swp f i j k = if k = j then f i else if k = i then f j else f k := rfl
theorem Rearr.swp {f : Nat → Nat} {a b i j : Nat} (i1 : a ≤ i) (i2 : i < b) (j1 : a ≤ j) (j2 : j < b) : Rearr f (swp f i j) a b := by
  refine ⟨fun k hk => ?_, fun k k1 k2 => ?_, fun hf k k' k1 k2 k3 k4 e => ?_⟩
  · rw [swp_at, if_neg (by omega), if_neg (by omega)]
  · rw [swp_at]
    split
    · exact ⟨i, i1, i2, rfl⟩
    · split
      · exact ⟨j, j1, j2, rfl⟩
      · exact ⟨k, k1, k2, rfl⟩
  · rw [swp_at, swp_at] at e
    have h1 := hf i j i1 i2 j1 j2
    have h2 := hf i k i1 i2 k1 k2
    have h3 := hf i k' i1 i2 k3 k4
    have h4 := hf j k j1 j2 k1 k2
    have h5 := hf j k' j1 j2 k3 k4
    have h6 := hf k k' k1 k2 k3 k4
    split at e
    · split at e
      · omega
      · split at e
        · have := h1 e; omega
        · have := h3 e; omega
    · split at e
      · split at e
        · have := h1 e.symm; omega
        · split at e
          · omega
          · have := h5 e; omega
      · split at e
        · have := h2 e.symm; omega
        · split at e
          · have := h4 e.symm; omega
          · exact h6 e
/-- From a to b (without it) nothing falls. -/
def Sd (l : List Nat) (f : Nat → Nat) (a b : Nat) : Prop := ∀ i j, a ≤ i → i ≤ j → j < b → Le l (f i) (f j)
theorem Sd.of_adj {l : List Nat} {f : Nat → Nat} {a b : Nat} (h : ∀ i, a ≤ i → i + 1 < b → Le l (f i) (f (i + 1))) : Sd l f a b := by
  intro i j hi hij hj
  obtain ⟨d, rfl⟩ : ∃ d, j = i + d := ⟨j - i, by omega⟩
  clear hij
  induction d with
  | zero => exact Le.refl _ _
  | succ d ih => exact (ih (by omega)).trans (h (i + d) (by omega) (by omega))
theorem Sd.same {l : List Nat} {f g : Nat → Nat} {a b : Nat} (h : Sd l f a b) (e : ∀ i, a ≤ i → i < b → g i = f i) : Sd l g a b := by
  intro i j hi hij hj
  rw [e i hi (by omega), e j (by omega) hj]
  exact h i j hi hij hj
theorem Sd.less {l : List Nat} {f : Nat → Nat} {a b a' b' : Nat} (h : Sd l f a b) (ha : a ≤ a') (hb : b' ≤ b) : Sd l f a' b' := fun i j hi hij hj => h i j (by omega) hij (by omega)
theorem Sd.one {l : List Nat} {f : Nat → Nat} {a b : Nat} (h : b ≤ a + 1) : Sd l f a b := by
  intro i j hi hij hj
  obtain rfl : i = j := by omega
  exact Le.refl _ _
/-! ### Rotations -/
def rotF (f : Nat → Nat) (a m b : Nat) : Nat → Nat := fun k => if a ≤ k ∧ k < b then (if k < a + (b - m) then f (k + (m - a)) else f (k - (b - m))) else f k
def swr (f : Nat → Nat) (x y n : Nat) : Nat → Nat := fun k => if x ≤ k ∧ k < x + n then f (k + (y - x)) else if y ≤ k ∧ k < y + n then f (k - (y - x)) else f k
theorem swr_zero (f : Nat → Nat) (x y : Nat) : swr f x y 0 = f := by
  funext k
  unfold swr
  rw [if_neg (by omega), if_neg (by omega)]
theorem swr_succ (f : Nat → Nat) (x y n : Nat) (h : x + n < y) : swr f x y (n + 1) = swp (swr f x y n) (x + n) (y + n) := by
  funext k
  rw [swp_at]
  unfold swr
  repeat' split
  all_goals first | rfl | (exfalso; omega) | (congr 1; omega)
theorem rot_left (f : Nat → Nat) (m i j : Nat) (hi : i ≤ m) (hj : j < i) : rotF (swr f (m - i) m j) (m - (i - j)) m (m + j) = rotF f (m - i) m (m + j) := by
  funext k
  unfold rotF swr
  repeat' split
  all_goals first | rfl | (exfalso; omega) | (congr 1; omega)
theorem rot_right (f : Nat → Nat) (m i j : Nat) (hi : i ≤ m) (hj : i < j) : rotF (swr f (m - i) (m + j - i) i) (m - i) m (m + (j - i)) = rotF f (m - i) m (m + j) := by
  funext k
  unfold rotF swr
  repeat' split
  all_goals first | rfl | (exfalso; omega) | (congr 1; omega)
theorem rot_even (f : Nat → Nat) (m i : Nat) (hi : i ≤ m) : swr f (m - i) m i = rotF f (m - i) m (m + i) := by
  funext k
  unfold rotF swr
  repeat' split
  all_goals first | rfl | (exfalso; omega) | (congr 1; omega)
theorem rot_none_left (f : Nat → Nat) (m b : Nat) : rotF f m m b = f := by
  funext k
  unfold rotF
  repeat' split
  all_goals first | rfl | (exfalso; omega) | (congr 1; omega)
theorem rot_none_right (f : Nat → Nat) (a m : Nat) : rotF f a m m = f := by
  funext k
  unfold rotF
  repeat' split
  all_goals first | rfl | (exfalso; omega) | (congr 1; omega)
theorem rot_up (f : Nat → Nat) (a k : Nat) (h : a ≤ k) : rotF f a (a + 1) (k + 2) = swp (rotF f a (a + 1) (k + 1)) k (k + 1) := by
  funext x
  rw [swp_at]
  unfold rotF
  repeat' split
  all_goals first | rfl | (exfalso; omega) | (congr 1; omega)
theorem rot_down (f : Nat → Nat) (m k : Nat) (h : k < m) : rotF f k m (m + 1) = swp (rotF f (k + 1) m (m + 1)) (k + 1) k := by
  funext x
  rw [swp_at]
  unfold rotF
  repeat' split
  all_goals first | rfl | (exfalso; omega) | (congr 1; omega)
theorem rot_at (f : Nat → Nat) (a m b k : Nat) : rotF f a m b k = if a ≤ k ∧ k < b then (if k < a + (b - m) then f (k + (m - a)) else f (k - (b - m))) else f k := rfl
theorem Rearr.rot (f : Nat → Nat) {a m b : Nat} (h1 : a ≤ m) (h2 : m ≤ b) : Rearr f (rotF f a m b) a b := by
  refine ⟨fun k hk => ?_, fun k k1 k2 => ?_, fun hf k k' k1 k2 k3 k4 e => ?_⟩
  · rw [rot_at, if_neg (by omega)]
  · rw [rot_at, if_pos (show a ≤ k ∧ k < b from ⟨k1, k2⟩)]
    split
    · exact ⟨_, by omega, by omega, rfl⟩
    · exact ⟨_, by omega, by omega, rfl⟩
  · rw [rot_at, rot_at, if_pos (show a ≤ k ∧ k < b from ⟨k1, k2⟩), if_pos (show a ≤ k' ∧ k' < b from ⟨k3, k4⟩)] at e
    split at e
    · split at e
      · have := hf _ _ (by omega) (by omega) (by omega) (by omega) e; omega
      · have := hf _ _ (by omega) (by omega) (by omega) (by omega) e; omega
    · split at e
      · have := hf _ _ (by omega) (by omega) (by omega) (by omega) e; omega
      · have := hf _ _ (by omega) (by omega) (by omega) (by omega) e; omega
/-- What a merge in place does. -/
structure Merged (l : List Nat) (f f' : Nat → Nat) (a m b : Nat) : Prop where
  re : Rearr f f' a b
  sd : Sd l f a m → Sd l f m b → Sd l f' a b
/-- One element ahead of a sorted row. -/
theorem merged_first {l : List Nat} {f : Nat → Nat} {a b i : Nat} (h1 : a + 1 ≤ i) (h2 : i ≤ b) (hl : i = a + 1 ∨ cfl l (f (i - 1)) (f a) < 0) (hr : i = b ∨ ¬ cfl l (f i) (f a) < 0) : Merged l f (rotF f a (a + 1) i) a (a + 1) b := by
  refine ⟨(Rearr.rot f (by omega) h1).wider (Nat.le_refl _) h2, fun _ hs => ?_⟩
  refine Sd.of_adj fun k k1 k2 => ?_
  rw [rot_at, rot_at]
  by_cases c1 : k + 1 < i - 1
  · rw [if_pos (by omega), if_pos (by omega), if_pos (by omega), if_pos (by omega)]
    exact hs _ _ (by omega) (by omega) (by omega)
  · by_cases c2 : k + 1 = i - 1
    · rw [if_pos (by omega), if_pos (by omega), if_pos (by omega), if_neg (by omega)]
      rcases hl with hl | hl
      · omega
      · rw [show k + (a + 1 - a) = i - 1 by omega, show k + 1 - (i - (a + 1)) = a by omega]
        exact Le.of_lt hl
    · by_cases c3 : k + 1 = i
      · rw [if_pos (by omega), if_neg (by omega), if_neg (by omega)]
        rcases hr with hr | hr
        · omega
        · rw [show k - (i - (a + 1)) = a by omega, c3]
          exact hr
      · rw [if_neg (by omega), if_neg (by omega)]
        exact hs _ _ (by omega) (by omega) (by omega)
/-- One element behind a sorted row. -/
theorem merged_last {l : List Nat} {f : Nat → Nat} {a m i : Nat} (h1 : a ≤ i) (h2 : i ≤ m) (hl : i = a ∨ ¬ cfl l (f m) (f (i - 1)) < 0) (hr : i = m ∨ cfl l (f m) (f i) < 0) : Merged l f (rotF f i m (m + 1)) a m (m + 1) := by
  refine ⟨(Rearr.rot f h2 (by omega)).wider h1 (Nat.le_refl _), fun hs _ => ?_⟩
  refine Sd.of_adj fun k k1 k2 => ?_
  rw [rot_at, rot_at]
  by_cases c1 : k + 1 < i
  · rw [if_neg (by omega), if_neg (by omega)]
    exact hs _ _ (by omega) (by omega) (by omega)
  · by_cases c2 : k + 1 = i
    · rw [if_neg (by omega), if_pos (by omega), if_pos (by omega)]
      rcases hl with hl | hl
      · omega
      · rw [show k + 1 + (m - i) = m by omega, show k = i - 1 by omega]
        exact hl
    · by_cases c3 : k = i
      · rw [if_pos (by omega), if_pos (by omega), if_pos (by omega), if_neg (by omega)]
        rcases hr with hr | hr
        · omega
        · rw [show k + (m - i) = m by omega, show k + 1 - (m + 1 - m) = i by omega]
          exact Le.of_lt hr
      · rw [if_pos (by omega), if_neg (by omega), if_pos (by omega), if_neg (by omega)]
        exact hs _ _ (by omega) (by omega) (by omega)
/-- The two halves behind the rotation, each merged by itself. -/
theorem merged_both {l : List Nat} {f g1 g2 : Nat → Nat} {a m b mid s e : Nat} (hm : mid = (a + b) / 2) (ham : a < m) (hmb : m < b) (he : e = mid + m - s)
    (hs : if mid < m then mid + m - b ≤ s ∧ s ≤ mid else a ≤ s ∧ s ≤ m)
    (hl : s = (if mid < m then mid + m - b else a) ∨ ¬ cfl l (f (mid + m - 1 - (s - 1))) (f (s - 1)) < 0)
    (hr : s = (if mid < m then mid else m) ∨ cfl l (f (mid + m - 1 - s)) (f s) < 0)
    (h1 : (a < s ∧ s < mid → Merged l (rotF f s m e) g1 a s mid) ∧ (¬ (a < s ∧ s < mid) → g1 = rotF f s m e))
    (h2 : (mid < e ∧ e < b → Merged l g1 g2 mid e b) ∧ (¬ (mid < e ∧ e < b) → g2 = g1)) : Merged l f g2 a m b := by
  have b1 : a ≤ s := by split at hs <;> omega
  have b2 : s ≤ m := by split at hs <;> omega
  have b3 : m ≤ e := by split at hs <;> omega
  have b4 : e ≤ b := by split at hs <;> omega
  have b5 : s ≤ mid := by split at hs <;> omega
  have b6 : mid ≤ e := by omega
  have b7 : s + (e - m) = mid := by omega
  have r1 : Rearr (rotF f s m e) g1 a mid := by
    by_cases c : a < s ∧ s < mid
    · exact (h1.1 c).re
    · rw [h1.2 c]; exact Rearr.refl _ _ _
  have r2 : Rearr g1 g2 mid b := by
    by_cases c : mid < e ∧ e < b
    · exact (h2.1 c).re
    · rw [h2.2 c]; exact Rearr.refl _ _ _
  refine ⟨(((Rearr.rot f b2 b3).wider b1 b4).trans (r1.wider (Nat.le_refl _) (by omega))).trans (r2.wider (by omega) (Nat.le_refl _)), fun p q => ?_⟩
  have a1 : Sd l (rotF f s m e) a s := (p.less (Nat.le_refl _) b2).same fun i i1 i2 => by rw [rot_at, if_neg (by omega)]
  have a2 : Sd l (rotF f s m e) s mid := by
    intro i j hi hij hj
    rw [rot_at, rot_at, if_pos (by omega), if_pos (by omega), if_pos (by omega), if_pos (by omega)]
    exact q _ _ (by omega) (by omega) (by omega)
  have a3 : Sd l (rotF f s m e) mid e := by
    intro i j hi hij hj
    rw [rot_at, rot_at, if_pos (by omega), if_neg (by omega), if_pos (by omega), if_neg (by omega)]
    exact p _ _ (by omega) (by omega) (by omega)
  have a4 : Sd l (rotF f s m e) e b := (q.less b3 (Nat.le_refl _)).same fun i i1 i2 => by rw [rot_at, if_neg (by omega)]
  have cr : ∀ i j, a ≤ i → i < mid → mid ≤ j → j < b → Le l (rotF f s m e i) (rotF f s m e j) := by
    intro i j i1 i2 j1 j2
    rw [rot_at, rot_at]
    by_cases ci : i < s
    · rw [if_neg (by omega)]
      by_cases cj : j < e
      · rw [if_pos (by omega), if_neg (by omega)]
        exact p _ _ (by omega) (by omega) (by omega)
      · rw [if_neg (by omega)]
        rcases hl with hl | hl
        · split at hl <;> omega
        · rw [show mid + m - 1 - (s - 1) = e by omega] at hl
          exact ((p i (s - 1) (by omega) (by omega) (by omega)).trans hl).trans (q e j (by omega) (by omega) (by omega))
    · rw [if_pos (by omega), if_pos (by omega)]
      by_cases cj : j < e
      · rw [if_pos (by omega), if_neg (by omega)]
        rcases hr with hr | hr
        · split at hr <;> omega
        · rw [show mid + m - 1 - s = e - 1 by omega] at hr
          exact ((q (i + (m - s)) (e - 1) (by omega) (by omega) (by omega)).trans (Le.of_lt hr)).trans (p s (j - (e - m)) (by omega) (by omega) (by omega))
      · rw [if_neg (by omega)]
        exact q _ _ (by omega) (by omega) (by omega)
  have s1 : Sd l g1 a mid := by
    by_cases c : a < s ∧ s < mid
    · exact (h1.1 c).sd a1 a2
    · rw [h1.2 c]
      by_cases c1 : a < s
      · have : s = mid := by omega
        rw [this] at a1 ⊢; exact a1
      · have : s = a := by omega
        rw [this] at a2 ⊢; exact a2
  have e2 : ∀ i, mid ≤ i → g1 i = rotF f s m e i := fun i hi => r1.out i (.inr hi)
  have s2 : Sd l g2 mid b := by
    by_cases c : mid < e ∧ e < b
    · exact (h2.1 c).sd (a3.same fun i i1 _ => e2 i i1) (a4.same fun i i1 _ => e2 i (by omega))
    · rw [h2.2 c]
      by_cases c1 : mid < e
      · have : e = b := by omega
        rw [this] at a3 e2; exact a3.same fun i i1 _ => e2 i i1
      · have : e = mid := by omega
        rw [this] at a4 e2; exact a4.same fun i i1 _ => e2 i i1
  intro i j hi hij hj
  by_cases ci : i < mid
  · by_cases cj : j < mid
    · rw [r2.out i (.inl ci), r2.out j (.inl cj)]
      exact s1 i j hi hij cj
    · rw [r2.out i (.inl ci)]
      obtain ⟨i', x1, x2, x3⟩ := r1.inn i hi ci
      obtain ⟨j', y1, y2, y3⟩ := r2.inn j (by omega) hj
      rw [x3, y3, e2 j' y1]
      exact cr i' j' x1 x2 y1 y2
  · exact s2 i j (by omega) hij hj
/-! ### Insertion -/
theorem ltc_iff {l : List Nat} {x y : Nat} : ltc l x y = true ↔ cfl l x y < 0 := by unfold ltc; exact decide_eq_true_iff
/-- All stands in order but the element at j, which is not behind what stands behind it. -/
theorem insIn_law {l : List Nat} {a : Nat} : ∀ (j J : Nat) (f : Nat → Nat), a ≤ j → j ≤ J → (∀ p q, a ≤ p → p < q → q ≤ J → q ≠ j → Le l (f p) (f q)) → Rearr f (insIn l a j f) a (J + 1) ∧ Sd l (insIn l a j f) a (J + 1)
  | 0, J, f, h1, h2, h => by
    refine ⟨Rearr.refl _ _ _, fun p q hp hpq hq => ?_⟩
    show Le l (f p) (f q)
    by_cases e : p = q
    · rw [e]; exact Le.refl _ _
    · exact h p q hp (by omega) (by omega) (by omega)
  | j + 1, J, f, h1, h2, h => by
    rw [insIn]
    split
    · rename_i c
      have hlt := ltc_iff.1 c.2
      have r0 : Rearr f (swp f (j + 1) j) a (J + 1) := Rearr.swp (by omega) (by omega) (by omega) (by omega)
      obtain ⟨r, s⟩ := insIn_law (a := a) j J (swp f (j + 1) j) (by omega) (by omega) (by
        intro p q hp hpq hq hne
        rw [swp_at, swp_at]
        by_cases c1 : q = j + 1
        · rw [if_neg hne, if_pos c1]
          by_cases c2 : p = j
          · rw [if_pos c2]; exact Le.of_lt hlt
          · rw [if_neg c2, if_neg (by omega)]; exact h p j hp (by omega) (by omega) (by omega)
        · rw [if_neg hne, if_neg c1]
          by_cases c2 : p = j
          · rw [if_pos c2]; exact h (j + 1) q (by omega) (by omega) hq c1
          · by_cases c3 : p = j + 1
            · rw [if_neg c2, if_pos c3]; exact h j q (by omega) (by omega) hq c1
            · rw [if_neg c2, if_neg c3]; exact h p q hp hpq hq c1)
      exact ⟨r0.trans r, s⟩
    · rename_i c
      refine ⟨Rearr.refl _ _ _, Sd.of_adj fun i i1 i2 => ?_⟩
      by_cases e : i + 1 = j + 1
      · obtain rfl : i = j := by omega
        intro hc
        exact c ⟨by omega, ltc_iff.2 hc⟩
      · exact h i (i + 1) i1 (by omega) (by omega) e
theorem insTo_law {l : List Nat} {a : Nat} (f : Nat → Nat) : ∀ k, Rearr f (insTo l a k f) a (a + k + 1) ∧ Sd l (insTo l a k f) a (a + k + 1)
  | 0 => ⟨Rearr.refl _ _ _, Sd.one (by omega)⟩
  | k + 1 => by
    obtain ⟨r, s⟩ := insTo_law f k
    have := insIn_law (l := l) (a := a) (a + k + 1) (a + k + 1) (insTo l a k f) (by omega) (Nat.le_refl _) (fun p q hp hpq hq hne => s p q hp (by omega) (by omega))
    exact ⟨(r.wider (Nat.le_refl _) (by omega)).trans this.1, this.2⟩
end Go.Proofs.Ytckmmcklhdfjfaa
