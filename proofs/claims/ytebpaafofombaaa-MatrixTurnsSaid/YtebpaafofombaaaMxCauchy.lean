/-
  PLAIN LAWS: any k rows of a code's generator have an inverse. No program in sight.
-/
import Derived.Test.YtebpaafofombaaaMxGauss
namespace Go.Proofs.Ytebpaafofombaaa.MxMath
open GfMath
set_option linter.unusedVariables false
instance : Std.Associative (α := El) (· * ·) := ⟨mulA⟩
instance : Std.Commutative (α := El) (· * ·) := ⟨mulC⟩
theorem mul_cancel {a b : El} (ha : a ≠ 0) (h : a * b = 0) : b = 0 := by
  have : inv a * (a * b) = 0 := by rw [h, mul0]
  rwa [← mulA, inv_mul ha, omul] at this
theorem sum_ne {a b : El} (h : a ≠ b) : a + b ≠ 0 := fun e => h (add_eq_zero e)
/-- (c + b) / (a + b) = 1 + (c + a) / (a + b) -/
theorem frac1 {a b c : El} (h : a ≠ b) : (c + b) * inv (a + b) = 1 + (c + a) * inv (a + b) := by
  have e : c + b = (a + b) + (c + a) := by
    rw [addC c a, addA, addC b, ← addA, ← addA, addS, zadd]
  rw [e, addM, mul_inv (sum_ne h)]
/-- 1 / (a + b) + 1 / (a + d) = (b + d) / ((a + b) (a + d)) -/
theorem frac2 {a b d : El} (h : a ≠ b) (h' : a ≠ d) : inv (a + b) + inv (a + d) = inv (a + d) * ((b + d) * inv (a + b)) := by
  have e : b + d = (a + d) + (a + b) := by
    rw [add4, addS, zadd, addC]
  rw [e, addM, mul_inv (sum_ne h), mulD, mul1, ← mulA, inv_mul (sum_ne h'), omul, addC]
/-- The rows of a square of 1 / (a + b) lose nothing. -/
theorem cauchy (t : Nat) : ∀ (a b u : Nat → El), (∀ i j, i < t → j < t → i ≠ j → a i ≠ a j) → (∀ i j, i < t → j < t → i ≠ j → b i ≠ b j) → (∀ i j, i < t → j < t → a i ≠ b j) →
    (∀ j, j < t → fsum t (fun i => u i * inv (a i + b j)) = 0) → ∀ i, i < t → u i = 0 := by
  induction t with
  | zero => intro a b u _ _ _ _ i hi; omega
  | succ t ih =>
    intro a b u ha hb hab hs
    -- each equation times (a t + b j)
    have h1 : ∀ j, j < t + 1 → fsum t (fun i => u i * ((a t + a i) * inv (a i + b j))) + fsum (t + 1) u = 0 := fun j hj => by
      have e0 : fsum (t + 1) (fun i => (a t + b j) * (u i * inv (a i + b j))) = 0 := by rw [fsum_mul, hs j hj, mul0]
      have e1 : fsum (t + 1) (fun i => (a t + b j) * (u i * inv (a i + b j))) = fsum (t + 1) (fun i => u i * ((a t + a i) * inv (a i + b j)) + u i) := fsum_congr fun i hi => by
        rw [← mulA, mulC (a t + b j) (u i), mulA, frac1 (hab i j hi hj), mulD, mul1, addC]
      rw [e1, fsum_add] at e0
      have ef : fsum (t + 1) (fun i => u i * ((a t + a i) * inv (a i + b j))) = fsum t (fun i => u i * ((a t + a i) * inv (a i + b j))) := by
        rw [fsum, addS, zmul, mul0, add0]
      exact ef ▸ e0
    -- less the last one
    have h2 : ∀ j, j < t → fsum t (fun i => (u i * ((a t + a i) * inv (a i + b t))) * inv (a i + b j)) = 0 := fun j hj => by
      have e0 : (fsum t (fun i => u i * ((a t + a i) * inv (a i + b j))) + fsum (t + 1) u) + (fsum t (fun i => u i * ((a t + a i) * inv (a i + b t))) + fsum (t + 1) u) = 0 := by
        rw [h1 j (by omega), h1 t (by omega), add0]
      rw [add4, addS, add0, ← fsum_add] at e0
      have e1 : fsum t (fun i => u i * ((a t + a i) * inv (a i + b j)) + u i * ((a t + a i) * inv (a i + b t))) = fsum t (fun i => (b j + b t) * ((u i * ((a t + a i) * inv (a i + b t))) * inv (a i + b j))) := fsum_congr fun i hi => by
        rw [← mulD, ← mulD, frac2 (hab i j (by omega) (by omega)) (hab i t (by omega) (by omega))]
        ac_rfl
      rw [e1, fsum_mul] at e0
      exact mul_cancel (sum_ne (hb j t (by omega) (by omega) (by omega))) e0
    have h3 := ih a b (fun i => u i * ((a t + a i) * inv (a i + b t))) (fun i j hi hj h => ha i j (by omega) (by omega) h) (fun i j hi hj h => hb i j (by omega) (by omega) h) (fun i j hi hj => hab i j (by omega) (by omega)) h2
    have h4 : ∀ i, i < t → u i = 0 := fun i hi => by
      have e := h3 i hi
      have n1 : (a t + a i) * inv (a i + b t) ≠ 0 := mul_ne (sum_ne (ha t i (by omega) (by omega) (by omega))) (inv_ne (sum_ne (hab i t (by omega) (by omega))))
      rw [mulC] at e
      exact mul_cancel n1 e
    intro i hi
    by_cases e : i = t
    · subst e
      have h5 := hs i (by omega)
      rw [fsum] at h5
      have h6 : fsum i (fun k => u k * inv (a k + b i)) = 0 := by
        rw [← fsum_zero i]
        exact fsum_congr fun k hk => by rw [h4 k hk, zmul]
      rw [h6, zadd, mulC] at h5
      exact mul_cancel (inv_ne (sum_ne (hab i i (by omega) (by omega)))) h5
    · exact h4 i (by omega)
/-! ### Sums over lists -/
def lsum (l : List Nat) (f : Nat → El) : El := l.foldr (fun i s => f i + s) 0
theorem lsum_append (l m : List Nat) (f : Nat → El) : lsum (l ++ m) f = lsum l f + lsum m f := by
  induction l with
  | nil => exact (zadd _).symm
  | cons a l ih => show f a + lsum (l ++ m) f = f a + lsum l f + lsum m f; rw [ih, addA]
theorem fsum_lsum (n : Nat) (f : Nat → El) : fsum n f = lsum (List.range n) f := by
  induction n with
  | zero => rfl
  | succ n ih =>
    rw [fsum, ih, List.range_succ, lsum_append]
    show _ = _ + (f n + 0)
    rw [add0]
theorem lsum_filter (l : List Nat) (p : Nat → Bool) (f : Nat → El) (h : ∀ i ∈ l, p i = false → f i = 0) : lsum l f = lsum (l.filter p) f := by
  induction l with
  | nil => rfl
  | cons a l ih =>
    have h1 := ih fun i hi => h i (List.mem_cons_of_mem _ hi)
    by_cases hp : p a = true
    · rw [List.filter_cons_of_pos hp]
      show f a + lsum l f = f a + lsum (l.filter p) f
      rw [h1]
    · rw [List.filter_cons_of_neg hp]
      show f a + lsum l f = _
      rw [h a (List.mem_cons_self ..) (by simpa using hp), zadd, h1]
theorem lsum_fsum (l : List Nat) (f : Nat → El) : lsum l f = fsum l.length (fun i => f (l.getD i 0)) := by
  have key : ∀ n, n ≤ l.length → lsum (l.take n) f = fsum n (fun i => f (l.getD i 0)) := by
    intro n
    induction n with
    | zero => intro _; rfl
    | succ n ih =>
      intro h
      rw [List.take_succ_eq_append_getElem (by omega), lsum_append, ih (by omega), fsum, List.getD_eq_getElem?_getD, List.getElem?_eq_getElem (by omega)]
      show _ + (f l[n] + 0) = _
      rw [add0]; rfl
  have := key l.length (Nat.le_refl _)
  rwa [List.take_of_length_le (Nat.le_refl _)] at this
theorem sub_len {l : List Nat} (hl : l.Nodup) : ∀ {m : List Nat}, (∀ x ∈ l, x ∈ m) → l.length ≤ m.length := by
  induction l with
  | nil => intro m _; simp
  | cons a l ih =>
    intro m h
    obtain ⟨h1, h2⟩ := List.nodup_cons.1 hl
    have ha := h a (List.mem_cons_self ..)
    have h3 := ih h2 (m := m.erase a) fun x hx => (List.mem_erase_of_ne (fun e => h1 (by rw [← e]; exact hx))).2 (h x (List.mem_cons_of_mem _ hx))
    rw [List.length_erase_of_mem ha] at h3
    have := List.length_pos_of_mem ha
    rw [List.length_cons]; omega
theorem getD_mem {l : List Nat} {i : Nat} (h : i < l.length) : l.getD i 0 ∈ l := by
  rw [List.getD_eq_getElem?_getD, List.getElem?_eq_getElem h]; exact List.getElem_mem _
theorem nodup_getD {l : List Nat} (h : l.Nodup) {i j : Nat} (hi : i < l.length) (hj : j < l.length) (hne : i ≠ j) : l.getD i 0 ≠ l.getD j 0 := by
  rw [List.getD_eq_getElem?_getD, List.getElem?_eq_getElem hi, List.getD_eq_getElem?_getD, List.getElem?_eq_getElem hj]
  intro e
  exact hne ((List.getElem_inj h).1 e)
/-! ### The generator -/
def el (i : Nat) : El := ⟨i % 256, Nat.mod_lt _ (by omega)⟩
theorem el_ne {i j : Nat} (hi : i < 256) (hj : j < 256) (h : i ≠ j) : el i ≠ el j := fun e => by
  have := congrArg El.v e
  simp only [el] at this
  omega
def genM (k : Nat) : Mat := fun i j => if i < k then dl i j else inv (el i + el j)
/-- Any k rows of the generator lose nothing. -/
theorem gen_rows {k n : Nat} (hkn : k ≤ n) (hn : n ≤ 256) (p : Nat → Nat) (hp : ∀ i, i < k → p i < n) (hi : ∀ i j, i < k → j < k → i ≠ j → p i ≠ p j) (u : Nat → El)
    (hs : ∀ j, j < k → fsum k (fun i => u i * genM k (p i) j) = 0) : ∀ i, i < k → u i = 0 := by
  let A := (List.range k).filter fun i => decide (k ≤ p i)
  let A' := (List.range k).filter fun i => decide (p i < k)
  let B := (List.range k).filter fun j => !(A'.map p).contains j
  have hA : ∀ i, i ∈ A ↔ i < k ∧ k ≤ p i := fun i => by simp [A]
  have hA' : ∀ i, i ∈ A' ↔ i < k ∧ p i < k := fun i => by simp [A']
  have hB : ∀ j, j ∈ B ↔ j < k ∧ ¬ ∃ i, i < k ∧ p i < k ∧ p i = j := fun j => by
    simp only [B, List.mem_filter, List.mem_range, Bool.not_eq_true', List.contains_eq_mem, decide_eq_false_iff_not, List.mem_map, hA']
    constructor
    · rintro ⟨h1, h2⟩; exact ⟨h1, fun ⟨i, q1, q2, q3⟩ => h2 ⟨i, ⟨q1, q2⟩, q3⟩⟩
    · rintro ⟨h1, h2⟩; exact ⟨h1, fun ⟨i, ⟨q1, q2⟩, q3⟩ => h2 ⟨i, q1, q2, q3⟩⟩
  have nA : A.Nodup := List.nodup_range.filter _
  have nB : B.Nodup := List.nodup_range.filter _
  have hAA : A.length + A'.length ≤ k := by
    have h1 : (A ++ A').Nodup := List.nodup_append.2 ⟨nA, List.nodup_range.filter _, fun a ha b hb e => by
      have q1 := (hA a).1 ha
      have q2 := (hA' b).1 hb
      rw [← e] at q2
      omega⟩
    have h2 := sub_len h1 (m := List.range k) fun x hx => by
      rcases List.mem_append.1 hx with hx | hx
      · exact List.mem_range.2 ((hA x).1 hx).1
      · exact List.mem_range.2 ((hA' x).1 hx).1
    rwa [List.length_append, List.length_range] at h2
  have hBB : k ≤ A'.length + B.length := by
    have h2 := sub_len (List.nodup_range (n := k)) (m := A'.map p ++ B) fun x hx => by
      have hxk := List.mem_range.1 hx
      rcases Classical.em (x ∈ A'.map p) with h3 | h3
      · exact List.mem_append_left _ h3
      · refine List.mem_append_right _ ((hB x).2 ⟨hxk, fun ⟨i, q1, q2, q3⟩ => h3 (List.mem_map.2 ⟨i, (hA' i).2 ⟨q1, q2⟩, q3⟩)⟩)
    rw [List.length_range, List.length_append, List.length_map] at h2
    exact h2
  have hAB : A.length ≤ B.length := by omega
  have hpar : ∀ s, s < A.length → u (A.getD s 0) = 0 := by
    refine cauchy A.length (fun s => el (p (A.getD s 0))) (fun s => el (B.getD s 0)) (fun s => u (A.getD s 0)) ?_ ?_ ?_ ?_
    · intro i j h1 h2 hne
      have q1 := (hA _).1 (getD_mem h1)
      have q2 := (hA _).1 (getD_mem h2)
      have := hi _ _ q1.1 q2.1 (nodup_getD nA h1 h2 hne)
      have := hp _ q1.1
      have := hp _ q2.1
      exact el_ne (by omega) (by omega) (by omega)
    · intro i j h1 h2 hne
      have q1 := (hB _).1 (getD_mem (show i < B.length by omega))
      have q2 := (hB _).1 (getD_mem (show j < B.length by omega))
      exact el_ne (by omega) (by omega) (nodup_getD nB (by omega) (by omega) hne)
    · intro i j h1 h2
      have q1 := (hA _).1 (getD_mem h1)
      have q2 := (hB _).1 (getD_mem (show j < B.length by omega))
      have := hp _ q1.1
      exact el_ne (by omega) (by omega) (by omega)
    · intro j hj
      have q2 := (hB _).1 (getD_mem (show j < B.length by omega))
      generalize B.getD j 0 = c at *
      have h0 := hs c q2.1
      rw [fsum_lsum, lsum_filter _ (fun i => decide (k ≤ p i)) _ (fun i him hpi => by
        have hik := List.mem_range.1 him
        have hlt : p i < k := by simpa using hpi
        unfold genM dl
        rw [if_pos hlt, if_neg (fun e => q2.2 ⟨i, hik, hlt, e⟩), mul0])] at h0
      rw [lsum_fsum] at h0
      rw [← h0]
      refine fsum_congr fun s hsA => ?_
      have q1 := (hA _).1 (getD_mem hsA)
      show _ = u (A.getD s 0) * genM k (p (A.getD s 0)) c
      unfold genM
      rw [if_neg (by omega)]
  have hpar' : ∀ i, i < k → k ≤ p i → u i = 0 := fun i hik hki => by
    obtain ⟨s, hs', es⟩ := List.mem_iff_getElem.1 ((hA i).2 ⟨hik, hki⟩)
    have := hpar s hs'
    rwa [List.getD_eq_getElem?_getD, List.getElem?_eq_getElem hs', Option.getD_some, es] at this
  intro i hik
  by_cases hki : k ≤ p i
  · exact hpar' i hik hki
  · have h0 := hs (p i) (by omega)
    have e : fsum k (fun l => u l * genM k (p l) (p i)) = fsum k (fun l => dl i l * u l) := fsum_congr fun l hl => by
      by_cases h1 : k ≤ p l
      · rw [hpar' l hl h1, zmul, mul0]
      · unfold genM
        rw [if_pos (by omega), mulC]
        congr 1
        unfold dl
        by_cases h2 : i = l
        · rw [if_pos h2, if_pos (by rw [h2])]
        · rw [if_neg h2, if_neg (fun e => hi l i hl hik (fun e2 => h2 e2.symm) e)]
    rw [e, fsum_dl k i hik] at h0
    exact h0
theorem gen_full {k n : Nat} (hkn : k ≤ n) (hn : n ≤ 256) (p : Nat → Nat) (hp : ∀ i, i < k → p i < n) (hi : ∀ i j, i < k → j < k → i ≠ j → p i ≠ p j) :
    rankN k k (fun i j => genM k (p i) j) = k :=
  rank_full fun u hu i hik => gen_rows hkn hn p hp hi u hu i hik
end Go.Proofs.Ytebpaafofombaaa.MxMath
