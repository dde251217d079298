/-
  PLAIN LAWS of Gauss and Jordan: what the steps come to; inverses; no program in sight.
-/
import Derived.Test.YtebpaafofombaaaMxMath
namespace Go.Proofs.Ytebpaafofombaaa.MxMath
open GfMath
set_option linter.unusedVariables false
/-- The first row from i on, of c rows, with something in a column. -/
def fnz (L : Mat) (col : Nat) : Nat → Nat → Option Nat
  | 0, _ => none
  | c + 1, i => if (L i col).v ≠ 0 then some i else fnz L col c (i + 1)
theorem fnz_some {L : Mat} {col : Nat} : ∀ {c i k : Nat}, fnz L col c i = some k → i ≤ k ∧ k < i + c ∧ L k col ≠ 0 := by
  intro c
  induction c with
  | zero => intro i k h; simp [fnz] at h
  | succ c ih =>
    intro i k h
    rw [fnz] at h
    split at h
    · rename_i h0
      injection h with h
      subst h
      exact ⟨Nat.le_refl _, by omega, fun e => h0 (congrArg El.v e)⟩
    · have := ih h
      exact ⟨by omega, by omega, this.2.2⟩
theorem fnz_none {L : Mat} {col : Nat} : ∀ {c i : Nat}, fnz L col c i = none → ∀ k, i ≤ k → k < i + c → L k col = 0 := by
  intro c
  induction c with
  | zero => intro i _ k h1 h2; omega
  | succ c ih =>
    intro i h k h1 h2
    rw [fnz] at h
    split at h
    · cases h
    · rename_i h0
      by_cases e : k = i
      · subst e
        exact El.ext' (by rw [zero_v]; simpa using h0)
      · exact ih h k (by omega) (by omega)
/-- How many rows are done, the left matrix, the right one. -/
structure St where
  d : Nat
  L : Mat
  R : Mat
def piv1 (i d : Nat) (M : Mat) : Mat := (swp i d).act M
def piv2 (d : Nat) (c : El) (M : Mat) : Mat := (scl d (inv c)).act M
def piv3 (d : Nat) (c : Nat → El) (M : Mat) : Mat := (clr d c).act M
/-- One column. -/
def stp (n col : Nat) (s : St) : St :=
  match fnz s.L col (n - s.d) s.d with
  | none => s
  | some i => ⟨s.d + 1, piv3 s.d (fun r => piv2 s.d (piv1 i s.d s.L s.d col) (piv1 i s.d s.L) r col) (piv2 s.d (piv1 i s.d s.L s.d col) (piv1 i s.d s.L)),
      piv3 s.d (fun r => piv2 s.d (piv1 i s.d s.L s.d col) (piv1 i s.d s.L) r col) (piv2 s.d (piv1 i s.d s.L s.d col) (piv1 i s.d s.R))⟩
def red (n : Nat) (s : St) : Nat → St
  | 0 => s
  | k + 1 => stp n k (red n s k)
theorem stp_none {n col : Nat} {s : St} (h : fnz s.L col (n - s.d) s.d = none) : stp n col s = s := by unfold stp; rw [h]
theorem stp_some {n col i : Nat} {s : St} (h : fnz s.L col (n - s.d) s.d = some i) : stp n col s = ⟨s.d + 1, piv3 s.d (fun r => piv2 s.d (piv1 i s.d s.L s.d col) (piv1 i s.d s.L) r col) (piv2 s.d (piv1 i s.d s.L s.d col) (piv1 i s.d s.L)),
      piv3 s.d (fun r => piv2 s.d (piv1 i s.d s.L s.d col) (piv1 i s.d s.L) r col) (piv2 s.d (piv1 i s.d s.L s.d col) (piv1 i s.d s.R))⟩ := by unfold stp; rw [h]
/-- What is done to the left one is done to the right one; it can be undone. -/
def Tracks (n : Nat) (L0 R0 : Mat) (s : St) : Prop := s.d ≤ n ∧ ∃ T, Unit_ n T ∧ (∀ i j, i < n → s.L i j = mm n T L0 i j) ∧ (∀ i j, i < n → s.R i j = mm n T R0 i j)
theorem track_act {n : Nat} {s t : RStep} (h : Undoes n s t) {T A M : Mat} (hA : ∀ i j, i < n → A i j = mm n T M i j) : ∀ i j, i < n → s.act A i j = mm n (s.act T) M i j := fun i j hi => by
  rw [← act_mm]
  exact act_congr h.1 (c := j + 1) (fun a b ha _ => hA a b ha) i j hi (by omega)
theorem tracks_start (n : Nat) (L0 R0 : Mat) : Tracks n L0 R0 ⟨0, L0, R0⟩ := ⟨Nat.zero_le _, dl, unit_one n, fun i j hi => (one_mm n L0 i j hi).symm, fun i j hi => (one_mm n R0 i j hi).symm⟩
theorem tracks_stp {n col : Nat} {L0 R0 : Mat} {s : St} (h : Tracks n L0 R0 s) : Tracks n L0 R0 (stp n col s) := by
  obtain ⟨hd, T, hT, hL, hR⟩ := h
  cases hf : fnz s.L col (n - s.d) s.d with
  | none => rw [stp_none hf]; exact ⟨hd, T, hT, hL, hR⟩
  | some i =>
    rw [stp_some hf]
    obtain ⟨h1, h2, h3⟩ := fnz_some hf
    have hdn : s.d < n := by omega
    have hpv : piv1 i s.d s.L s.d col ≠ 0 := by
      unfold piv1
      rw [swp_act]
      by_cases e : s.d = i
      · rw [if_pos e, e]; exact h3
      · rw [if_neg e, if_pos rfl]; exact h3
    have u1 := swp_undo (n := n) (x := i) (y := s.d) (by omega) hdn
    have u2 := scl_undo (n := n) (x := s.d) (c := inv (piv1 i s.d s.L s.d col)) (inv_ne hpv)
    have u3 := clr_undo (n := n) hdn (fun r => piv2 s.d (piv1 i s.d s.L s.d col) (piv1 i s.d s.L) r col)
    exact ⟨hdn, _, unit_act u3 (unit_act u2 (unit_act u1 hT)), track_act u3 (track_act u2 (track_act u1 hL)), track_act u3 (track_act u2 (track_act u1 hR))⟩
theorem tracks_red (n : Nat) (L0 R0 : Mat) (k : Nat) : Tracks n L0 R0 (red n ⟨0, L0, R0⟩ k) := by
  induction k with
  | zero => exact tracks_start n L0 R0
  | succ k ih => exact tracks_stp ih
/-- Reduced so far. -/
def Ech (n k d : Nat) (L : Mat) : Prop :=
  d ≤ n ∧ ∃ pc : Nat → Nat, (∀ i, i < d → pc i < k ∧ L i (pc i) = 1 ∧ ∀ i', i' < n → i' ≠ i → L i' (pc i) = 0) ∧ (∀ i j, i < j → j < d → pc i < pc j) ∧ (∀ i, d ≤ i → i < n → ∀ j, j < k → L i j = 0)
theorem ech_start (n : Nat) (L : Mat) : Ech n 0 0 L := ⟨Nat.zero_le _, fun _ => 0, fun i h => absurd h (by omega), fun i j _ h => absurd h (by omega), fun i _ _ j h => absurd h (by omega)⟩
theorem ech_stp {n col : Nat} {s : St} (h : Ech n col s.d s.L) : Ech n (col + 1) (stp n col s).d (stp n col s).L := by
  obtain ⟨hd, pc, h1, h2, h3⟩ := h
  cases hf : fnz s.L col (n - s.d) s.d with
  | none =>
    rw [stp_none hf]
    refine ⟨hd, pc, fun i hi => ⟨by have := (h1 i hi).1; omega, (h1 i hi).2⟩, h2, fun i hi hn j hj => ?_⟩
    by_cases e : j = col
    · subst e; exact fnz_none hf i hi (by omega)
    · exact h3 i hi hn j (by omega)
  | some i0 =>
    rw [stp_some hf]
    obtain ⟨g1, g2, g3⟩ := fnz_some hf
    obtain ⟨d, L, R⟩ := s
    simp only at hd h1 h2 h3 g1 g2 g3 ⊢
    have hdn : d < n := by omega
    obtain ⟨M, eM⟩ : ∃ M, piv1 i0 d L = M := ⟨_, rfl⟩
    have hM : ∀ i j, M i j = L (if i = i0 then d else if i = d then i0 else i) j := fun i j => by rw [← eM]; exact swp_act i0 d L i j
    have hMd : M d col = L i0 col := by
      rw [hM]
      by_cases e : d = i0
      · rw [if_pos e, e]
      · rw [if_neg e, if_pos rfl]
    rw [eM, hMd]
    have hlow : ∀ i, d ≤ i → i < n → ∀ j, j < col → M i j = 0 := fun i hi hn j hj => by
      rw [hM]
      by_cases e : i = i0
      · rw [if_pos e]; exact h3 d (Nat.le_refl _) hdn j hj
      · rw [if_neg e]
        by_cases e2 : i = d
        · rw [if_pos e2]; exact h3 i0 g1 (by omega) j hj
        · rw [if_neg e2]; exact h3 i hi hn j hj
    have hup : ∀ i, i < d → ∀ j, M i j = L i j := fun i hi j => by rw [hM, if_neg (by omega), if_neg (by omega)]
    have hpc : ∀ i, i < d → ∀ i', i' < n → i' ≠ i → M i' (pc i) = 0 := fun i hi i' hi' hne => by
      rw [hM]
      have := (h1 i hi).2.2
      by_cases e : i' = i0
      · rw [if_pos e]; exact this d hdn (by omega)
      · rw [if_neg e]
        by_cases e2 : i' = d
        · rw [if_pos e2]; exact this i0 (by omega) (by omega)
        · rw [if_neg e2]; exact this i' hi' hne
    obtain ⟨N, eN⟩ : ∃ N, piv2 d (L i0 col) M = N := ⟨_, rfl⟩
    have hN : ∀ i j, N i j = if i = d then inv (L i0 col) * M i j else M i j := fun i j => by rw [← eN]; exact scl_act d _ M i j
    have hNd : N d col = 1 := by rw [hN, if_pos rfl, hMd]; exact inv_mul g3
    rw [eN]
    have hNlow : ∀ j, j < col → N d j = 0 := fun j hj => by rw [hN, if_pos rfl, hlow d (Nat.le_refl _) hdn j hj, mul0]
    have hP : ∀ i j, piv3 d (fun r => N r col) N i j = if i = d then N i j else N i j + N i col * N d j := fun i j => clr_act d _ N i j
    have hPlow : ∀ i j, j < col → piv3 d (fun r => N r col) N i j = N i j := fun i j hj => by
      rw [hP]
      split
      · rfl
      · rw [hNlow j hj, mul0, add0]
    have hNne : ∀ i j, i ≠ d → N i j = M i j := fun i j h => by rw [hN, if_neg h]
    refine ⟨hdn, fun i => if i = d then col else pc i, fun i hi => ?_, fun i j hij hj => ?_, fun i hi hn j hj => ?_⟩
    · by_cases e : i = d
      · subst e
        simp only [if_true]
        refine ⟨by omega, by rw [hP, if_pos rfl, hNd], fun i' hi' hne => ?_⟩
        rw [hP, if_neg hne, hNd, mul1, addS]
      · simp only [if_neg e]
        have hi' : i < d := by omega
        have hp := (h1 i hi').1
        refine ⟨by omega, ?_, fun i' hi2 hne => ?_⟩
        · rw [hPlow i _ hp, hNne i _ e, hup i hi']; exact (h1 i hi').2.1
        · rw [hPlow i' _ hp]
          by_cases e2 : i' = d
          · rw [e2]; exact hNlow _ hp
          · rw [hNne i' _ e2]; exact hpc i hi' i' hi2 hne
    · have hid : i ≠ d := by omega
      simp only [if_neg hid]
      by_cases e : j = d
      · rw [if_pos e]; exact (h1 i (by omega)).1
      · rw [if_neg e]; exact h2 i j hij (by omega)
    · have hid : i ≠ d := by omega
      by_cases e : j = col
      · subst e
        rw [hP, if_neg hid, hNd, mul1, addS]
      · rw [hPlow i j (by omega), hNne i j hid]
        exact hlow i (by omega) hn j (by omega)
theorem ech_red (n : Nat) (L0 R0 : Mat) (k : Nat) : Ech n k (red n ⟨0, L0, R0⟩ k).d (red n ⟨0, L0, R0⟩ k).L := by
  induction k with
  | zero => exact ech_start n L0
  | succ k ih => exact ech_stp ih
theorem rise_id {n : Nat} {pc : Nat → Nat} (h1 : ∀ i, i < n → pc i < n) (h2 : ∀ i j, i < j → j < n → pc i < pc j) : ∀ i, i < n → pc i = i := by
  have lo : ∀ i, i < n → i ≤ pc i := by
    intro i
    induction i with
    | zero => intro _; omega
    | succ i ih => intro h; have := ih (by omega); have := h2 i (i + 1) (by omega) h; omega
  have hi : ∀ k i, i + k + 1 = n → pc i ≤ i := by
    intro k
    induction k with
    | zero => intro i h; have := h1 i (by omega); omega
    | succ k ih => intro i h; have := ih (i + 1) (by omega); have := h2 i (i + 1) (by omega) (by omega); omega
  intro i h
  have := lo i h
  have := hi (n - i - 1) i (by omega)
  omega
/-- All rows done: the left one has become the identity. -/
theorem ech_full {n d : Nat} {L : Mat} (h : Ech n n d L) (hd : d = n) : EqOn n n L dl := by
  subst hd
  obtain ⟨_, pc, h1, h2, _⟩ := h
  have hid := rise_id (fun i hi => (h1 i hi).1) h2
  intro i j hi hj
  have hpj := hid j hj
  have := h1 j hj
  rw [hpj] at this
  unfold dl
  by_cases e : i = j
  · rw [if_pos e, e]; exact this.2.1
  · rw [if_neg e]; exact this.2.2 i hi e
/-- Not all rows done: the last row has become nought. -/
theorem ech_short {n k d : Nat} {L : Mat} (h : Ech n k d L) (hd : d ≠ n) : ∀ j, j < k → L (n - 1) j = 0 := by
  obtain ⟨h0, pc, _, _, h3⟩ := h
  exact h3 (n - 1) (by omega) (by omega)
def rankN (n k : Nat) (L0 : Mat) : Nat := (red n ⟨0, L0, L0⟩ k).d
theorem red_left (n : Nat) (L0 R0 R1 : Mat) (k : Nat) : (red n ⟨0, L0, R0⟩ k).d = (red n ⟨0, L0, R1⟩ k).d ∧ (red n ⟨0, L0, R0⟩ k).L = (red n ⟨0, L0, R1⟩ k).L := by
  induction k with
  | zero => exact ⟨rfl, rfl⟩
  | succ k ih =>
    show (stp n k _).d = (stp n k _).d ∧ (stp n k _).L = (stp n k _).L
    generalize red n ⟨0, L0, R0⟩ k = s at *
    generalize red n ⟨0, L0, R1⟩ k = t at *
    obtain ⟨d, L, R⟩ := s
    obtain ⟨d', L', R'⟩ := t
    obtain ⟨rfl, rfl⟩ := ih
    cases hf : fnz L k (n - d) d with
    | none => rw [stp_none (s := ⟨d, L, R⟩) hf, stp_none (s := ⟨d, L, R'⟩) hf]; exact ⟨rfl, rfl⟩
    | some i => rw [stp_some (s := ⟨d, L, R⟩) hf, stp_some (s := ⟨d, L, R'⟩) hf]; exact ⟨rfl, rfl⟩
def invM (n : Nat) (L0 : Mat) : Mat := (red n ⟨0, L0, dl⟩ n).R
theorem rankN_of (n k : Nat) (L0 R0 : Mat) : (red n ⟨0, L0, R0⟩ k).d = rankN n k L0 := (red_left n L0 R0 L0 k).1
/-- The inverse undoes the matrix, from both sides. -/
theorem inv_both {n : Nat} {L0 : Mat} (h : rankN n n L0 = n) : EqOn n n (mm n (invM n L0) L0) dl ∧ EqOn n n (mm n L0 (invM n L0)) dl := by
  obtain ⟨_, T, ⟨T', t1, t2⟩, hL, hR⟩ := tracks_red n L0 dl n
  have hd := rankN_of n n L0 dl
  rw [h] at hd
  have hI := ech_full (ech_red n L0 dl n) hd
  have hRT : EqOn n n (invM n L0) T := fun i j hi hj => by
    show (red n ⟨0, L0, dl⟩ n).R i j = T i j
    rw [hR i j hi, mm_one n T i j hj]
  have hTL : EqOn n n (mm n T L0) dl := fun i j hi hj => by rw [← hL i j hi]; exact hI i j hi hj
  have hLT : EqOn n n L0 T' := fun i j hi hj => by
    rw [← one_mm n L0 i j hi, ← mm_one n T' i j hj]
    rw [mm_congr t1.symm (EqOn.refl n n L0) i j hi hj, mm_assoc]
    exact mm_congr (EqOn.refl n n T') hTL i j hi hj
  refine ⟨fun i j hi hj => ?_, fun i j hi hj => ?_⟩
  · rw [mm_congr hRT (EqOn.refl n n L0) i j hi hj]; exact hTL i j hi hj
  · rw [mm_congr hLT hRT i j hi hj]; exact t1 i j hi hj
/-- Where no row but nought is lost, all rows are done. -/
theorem rank_full {n m : Nat} {L0 : Mat} (h : ∀ u : Nat → El, (∀ j, j < m → fsum n (fun k => u k * L0 k j) = 0) → ∀ k, k < n → u k = 0) : rankN n m L0 = n := by
  rcases Nat.lt_or_ge 0 n with hn | hn
  · obtain ⟨_, T, ⟨T', t1, t2⟩, hL, _⟩ := tracks_red n L0 L0 m
    rcases Classical.em (rankN n m L0 = n) with hd | hd
    · exact hd
    · have hz := ech_short (ech_red n L0 L0 m) hd
      have h0 := h (fun k => T (n - 1) k) (fun j hj => by rw [← hz j hj, hL (n - 1) j (by omega)]; rfl)
      have h1 := t2 (n - 1) (n - 1) (by omega) (by omega)
      have h2 : mm n T T' (n - 1) (n - 1) = 0 := by
        rw [← fsum_zero n]
        exact fsum_congr fun k hk => by rw [h0 k hk, zmul]
      rw [h2] at h1
      unfold dl at h1
      rw [if_pos rfl] at h1
      exact absurd h1.symm one_ne
  · have := (tracks_red n L0 L0 m).1
    unfold rankN
    omega
/-- What has an inverse from the right has all rows done. -/
theorem rank_of_right {n : Nat} {L0 Y : Mat} (h : EqOn n n (mm n L0 Y) dl) : rankN n n L0 = n := by
  refine rank_full fun u hu k hk => ?_
  have h1 : fsum n (fun l => (fsum n fun k => u k * L0 k l) * Y l k) = 0 := by
    rw [← fsum_zero n]
    exact fsum_congr fun l hl => by rw [hu l hl, zmul]
  have h2 := mm_assoc n n (fun _ => u) L0 Y 0 k
  have h3 : mm n (fun _ => u) (mm n L0 Y) 0 k = u k := by
    rw [show mm n (fun _ => u) (mm n L0 Y) 0 k = fsum n (fun l => u l * mm n L0 Y l k) from rfl]
    rw [fsum_congr (g := fun l => u l * dl l k) fun l hl => by rw [h l k hl hk]]
    exact fsum_dl' n k hk u
  rw [← h3, ← h2]
  exact h1
/-- The inverse's inverse is the matrix. -/
theorem inv_inv {n : Nat} {L0 : Mat} (h : rankN n n L0 = n) : rankN n n (invM n L0) = n ∧ EqOn n n (invM n (invM n L0)) L0 := by
  obtain ⟨h1, h2⟩ := inv_both h
  have hr := rank_of_right h1
  obtain ⟨h3, h4⟩ := inv_both hr
  refine ⟨hr, fun i j hi hj => ?_⟩
  rw [← mm_one n (invM n (invM n L0)) i j hj, ← one_mm n L0 i j hi]
  rw [mm_congr (EqOn.refl n n _) h1.symm i j hi hj, ← mm_assoc]
  exact mm_congr h3 (EqOn.refl n n L0) i j hi hj
end Go.Proofs.Ytebpaafofombaaa.MxMath
