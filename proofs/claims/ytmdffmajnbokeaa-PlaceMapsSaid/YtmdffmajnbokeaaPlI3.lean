/-
  With in plain words: the program's rows and the reference's rows are the same.
-/
import Derived.Test.YtmdffmajnbokeaaPlI2
namespace Go.Proofs.Ytmdffmajnbokeaa
open Go.RowKit StrMath PlMath
set_option linter.unusedVariables false
/-- The reference's rows: whether the member is in, and the row. -/
def rwStep (id wt : Int) (s : Bool × List Mem) (x : Mem) : Bool × List Mem :=
  if s.1 = false ∧ id ≤ x.1 then (true, if x.1 ≠ id then s.2 ++ [(id, wt)] ++ [x] else s.2 ++ [(id, wt)])
  else (s.1, if x.1 ≠ id then s.2 ++ [x] else s.2)
def rwTo (ms : List Mem) (id wt : Int) : Nat → Bool × List Mem
  | 0 => (false, [])
  | k + 1 => rwStep id wt (rwTo ms id wt k) (ms.getD k (0, 0))
def rwEnd (id wt : Int) (s : Bool × List Mem) : List Mem := if s.1 = true then s.2 else s.2 ++ [(id, wt)]
/-- What the rows hold. -/
structure RwI (id wt : Int) (p : List Mem) (s : Bool × List Mem) : Prop where
  put : s.1 = true ↔ ∃ y ∈ p, id ≤ y.1
  mem : ∀ x, x ∈ s.2 ↔ (s.1 = true ∧ x = (id, wt)) ∨ (x ∈ p ∧ x.1 ≠ id)
  up : s.2.Pairwise (fun a b => a.1 < b.1)
theorem pw_snoc {l : List Mem} {x : Mem} (h : l.Pairwise (fun a b => a.1 < b.1)) (hx : ∀ y ∈ l, y.1 < x.1) : (l ++ [x]).Pairwise (fun a b => a.1 < b.1) := by
  rw [List.pairwise_append]
  exact ⟨h, by simp, fun a ha b hb => by rw [List.mem_singleton.1 hb]; exact hx a ha⟩
theorem RwI.step {id wt : Int} {p : List Mem} {s : Bool × List Mem} {x : Mem} (h : RwI id wt p s) (hx : ∀ y ∈ p, y.1 < x.1) : RwI id wt (p ++ [x]) (rwStep id wt s x) := by
  obtain ⟨b, l⟩ := s
  obtain ⟨h1, h2, h3⟩ := h
  simp only at h1 h2 h3
  unfold rwStep
  by_cases c : b = false ∧ id ≤ x.1
  · obtain ⟨rfl, c2⟩ := c
    rw [if_pos ⟨rfl, c2⟩]
    have hp : ∀ y ∈ p, y.1 < id := fun y hy => by
      exact Int.not_le.1 fun h => Bool.false_ne_true (h1.2 ⟨y, hy, h⟩)
    have hl : ∀ y ∈ l, y.1 < id := fun y hy => by
      rcases (h2 y).1 hy with ⟨h, _⟩ | h
      · cases h
      · exact hp y h.1
    have u1 : (l ++ [(id, wt)]).Pairwise (fun a b => a.1 < b.1) := pw_snoc h3 hl
    by_cases c3 : x.1 = id
    · rw [if_neg (by simpa using c3)]
      refine ⟨⟨fun _ => ⟨x, by simp, c2⟩, fun _ => rfl⟩, fun z => ?_, u1⟩
      simp only [List.mem_append, List.mem_singleton, h2, Bool.false_eq_true, false_and, false_or, true_and]
      constructor
      · rintro (h | h)
        · exact .inr ⟨.inl h.1, h.2⟩
        · exact .inl h
      · rintro (h | ⟨h | h, h'⟩)
        · exact .inr h
        · exact .inl ⟨h, h'⟩
        · exact absurd (by rw [h]; exact c3) h'
    · rw [if_pos c3]
      refine ⟨⟨fun _ => ⟨x, by simp, c2⟩, fun _ => rfl⟩, fun z => ?_, pw_snoc u1 fun y hy => ?_⟩
      · simp only [List.mem_append, List.mem_singleton, h2, Bool.false_eq_true, false_and, false_or, true_and]
        constructor
        · rintro ((h | h) | h)
          · exact .inr ⟨.inl h.1, h.2⟩
          · exact .inl h
          · exact .inr ⟨.inr h, by rw [h]; exact c3⟩
        · rintro (h | ⟨h | h, h'⟩)
          · exact .inl (.inr h)
          · exact .inl (.inl ⟨h, h'⟩)
          · exact .inr h
      · rcases List.mem_append.1 hy with h | h
        · have := hl y h; omega
        · rw [List.mem_singleton.1 h]; show id < x.1; omega
  · rw [if_neg c]
    have hlx : ∀ y ∈ l, y.1 < x.1 := fun y hy => by
      rcases (h2 y).1 hy with ⟨h, e⟩ | h
      · obtain ⟨z, hz, hz2⟩ := h1.1 h
        have := hx z hz
        rw [e]; show id < x.1; omega
      · exact hx y h.1
    have hput : b = true ↔ ∃ y ∈ p ++ [x], id ≤ y.1 := by
      constructor
      · intro h
        obtain ⟨y, hy, h'⟩ := h1.1 h
        exact ⟨y, List.mem_append.2 (.inl hy), h'⟩
      · rintro ⟨y, hy, h'⟩
        rcases List.mem_append.1 hy with h | h
        · exact h1.2 ⟨y, h, h'⟩
        · rw [List.mem_singleton.1 h] at h'
          cases b
          · exact absurd ⟨rfl, h'⟩ c
          · rfl
    by_cases c3 : x.1 = id
    · rw [if_neg (by simpa using c3)]
      refine ⟨hput, fun z => ?_, h3⟩
      simp only [h2, List.mem_append, List.mem_singleton]
      constructor
      · rintro (h | h)
        · exact .inl h
        · exact .inr ⟨.inl h.1, h.2⟩
      · rintro (h | ⟨h | h, h'⟩)
        · exact .inl h
        · exact .inr ⟨h, h'⟩
        · exact absurd (by rw [h]; exact c3) h'
    · rw [if_pos c3]
      refine ⟨hput, fun z => ?_, pw_snoc h3 hlx⟩
      simp only [List.mem_append, List.mem_singleton, h2]
      constructor
      · rintro ((h | h) | h)
        · exact .inl h
        · exact .inr ⟨.inl h.1, h.2⟩
        · exact .inr ⟨.inr h, by rw [h]; exact c3⟩
      · rintro (h | ⟨h | h, h'⟩)
        · exact .inl (.inl h)
        · exact .inl (.inr ⟨h, h'⟩)
        · exact .inr h
theorem rwTo_inv {ms : List Mem} (hU : Up ms) (id wt : Int) : ∀ k, k ≤ ms.length → RwI id wt (ms.take k) (rwTo ms id wt k)
  | 0, _ => ⟨⟨(fun h => by cases h), (fun ⟨y, hy, _⟩ => by simp at hy)⟩, (fun x => by simp [rwTo]), by simp [rwTo]⟩
  | k + 1, h => by
    have ih := rwTo_inv hU id wt k (by omega)
    have e : ms.take (k + 1) = ms.take k ++ [ms.getD k (0, 0)] := by
      rw [List.take_succ_eq_append_getElem (by omega), List.getD_eq_getElem?_getD, List.getElem?_eq_getElem (by omega)]; rfl
    rw [e]
    refine ih.step fun y hy => ?_
    obtain ⟨j, hj, rfl⟩ := List.mem_iff_getElem.1 hy
    have hj' : j < k := by rw [List.length_take] at hj; omega
    rw [List.getElem_take, List.getD_eq_getElem?_getD, List.getElem?_eq_getElem (by omega)]
    exact List.pairwise_iff_getElem.1 hU.1 j k (by omega) (by omega) hj'
theorem rwEnd_law {ms : List Mem} (hU : Up ms) (id wt : Int) :
    (rwEnd id wt (rwTo ms id wt ms.length)).Pairwise (fun a b => a.1 < b.1) ∧ ∀ x, x ∈ rwEnd id wt (rwTo ms id wt ms.length) ↔ x = (id, wt) ∨ (x ∈ ms ∧ x.1 ≠ id) := by
  have h := rwTo_inv hU id wt ms.length (Nat.le_refl _)
  rw [List.take_length] at h
  generalize rwTo ms id wt ms.length = s at h
  obtain ⟨b, l⟩ := s
  obtain ⟨h1, h2, h3⟩ := h
  unfold rwEnd
  cases b
  · simp only [Bool.false_eq_true, if_false] at h1 h2 h3 ⊢
    refine ⟨pw_snoc h3 fun y hy => ?_, fun x => ?_⟩
    · rcases (h2 y).1 hy with ⟨h, _⟩ | h
      · cases h
      · refine Classical.byContradiction fun hn => h1.2 ⟨y, h.1, ?_⟩
        exact Int.not_lt.1 hn
    · rw [List.mem_append, List.mem_singleton, h2]
      simp only [false_and, false_or]
      exact Or.comm
  · simp only [if_true] at h1 h2 h3 ⊢
    exact ⟨h3, fun x => by rw [h2]; simp⟩
theorem map_put_law {ms : List Mem} (hU : Up ms) (id wt : Int) (hin : ∃ y ∈ ms, y.1 = id) : (ms.map (put id wt)).Pairwise (fun a b => a.1 < b.1) ∧ ∀ x, x ∈ ms.map (put id wt) ↔ x = (id, wt) ∨ (x ∈ ms ∧ x.1 ≠ id) := by
  constructor
  · rw [List.pairwise_map]
    exact hU.1.imp fun {a b} h => by rw [put_fst, put_fst]; exact h
  · intro x
    rw [List.mem_map]
    constructor
    · rintro ⟨y, hy, rfl⟩
      unfold put
      split
      · exact .inl rfl
      · rename_i h; exact .inr ⟨hy, h⟩
    · rintro (rfl | ⟨h, h'⟩)
      · obtain ⟨y, hy, e⟩ := hin
        exact ⟨y, hy, by unfold put; rw [if_pos e]⟩
      · exact ⟨x, h, by unfold put; rw [if_neg h']⟩
theorem lessN_mono (l : List Mem) {a b : Int} (h : a ≤ b) : lessN l a ≤ lessN l b := by
  unfold lessN
  induction l with
  | nil => exact Nat.le_refl _
  | cons x l ih =>
    rw [List.filter_cons, List.filter_cons]
    by_cases c : x.1 < a
    · rw [if_pos (by simpa using c), if_pos (by simp; omega)]
      simp only [List.length_cons]; omega
    · rw [if_neg (by simpa using c)]
      split
      · simp only [List.length_cons]; omega
      · exact ih
theorem insM_law {ms : List Mem} (hU : Up ms) (id wt : Int) (hno : ∀ y ∈ ms, y.1 ≠ id) : (insM ms (lessN ms id) (id, wt)).Pairwise (fun a b => a.1 < b.1) ∧ ∀ x, x ∈ insM ms (lessN ms id) (id, wt) ↔ x = (id, wt) ∨ (x ∈ ms ∧ x.1 ≠ id) := by
  have hp := List.pairwise_iff_getElem.1 hU.1
  have eg : ∀ j (h : j < ms.length), ms.getD j (0, 0) = ms[j] := fun j h => by rw [List.getD_eq_getElem?_getD, List.getElem?_eq_getElem h]; rfl
  have lo : ∀ j (h : j < ms.length), j < lessN ms id → ms[j].1 < id := fun j h hj => by
    have h1 := lessN_at hU j h
    rw [eg j h] at h1
    refine Classical.byContradiction fun hn => ?_
    have := lessN_mono ms (a := id) (b := ms[j].1) (by omega)
    omega
  have hi : ∀ j (h : j < ms.length), lessN ms id ≤ j → id < ms[j].1 := fun j h hj => by
    have h0 := hno ms[j] (List.getElem_mem h)
    refine Classical.byContradiction fun hn => ?_
    have hall : (ms.take (j + 1)).filter (fun x => decide (x.1 < id)) = ms.take (j + 1) := List.filter_eq_self.2 fun x hx => by
      obtain ⟨i, hi, rfl⟩ := List.mem_iff_getElem.1 hx
      have hi' : i < j + 1 := by rw [List.length_take] at hi; omega
      rw [List.getElem_take]
      by_cases e : i = j
      · subst e; simp; omega
      · have := hp i j (by omega) h (by omega)
        simp; omega
    have h2 : lessN (ms.take (j + 1)) id = j + 1 := by unfold lessN; rw [hall, List.length_take]; omega
    have h3 : lessN (ms.take (j + 1)) id ≤ lessN ms id := by
      unfold lessN
      exact ((List.take_sublist _ _).filter _).length_le
    omega
  have hto : ∀ y ∈ ms.take (lessN ms id), y.1 < id := fun y hy => by
    obtain ⟨j, hj, rfl⟩ := List.mem_iff_getElem.1 hy
    rw [List.length_take] at hj
    rw [List.getElem_take]
    exact lo j (by omega) (by omega)
  have hdr : ∀ y ∈ ms.drop (lessN ms id), id < y.1 := fun y hy => by
    obtain ⟨j, hj, rfl⟩ := List.mem_iff_getElem.1 hy
    rw [List.length_drop] at hj
    rw [List.getElem_drop]
    exact hi _ (by omega) (by omega)
  unfold insM
  constructor
  · rw [List.pairwise_append]
    refine ⟨hU.1.sublist (List.take_sublist _ _), List.pairwise_cons.2 ⟨fun y hy => hdr y hy, hU.1.sublist (List.drop_sublist _ _)⟩, fun a ha b hb => ?_⟩
    have h1 := hto a ha
    rcases List.mem_cons.1 hb with rfl | hb
    · exact h1
    · have := hdr b hb; omega
  · intro x
    rw [List.mem_append, List.mem_cons]
    constructor
    · rintro (h | h | h)
      · exact .inr ⟨List.mem_of_mem_take h, hno x (List.mem_of_mem_take h)⟩
      · exact .inl h
      · exact .inr ⟨List.mem_of_mem_drop h, hno x (List.mem_of_mem_drop h)⟩
    · rintro (h | ⟨h, _⟩)
      · exact .inr (.inl h)
      · rw [← List.take_append_drop (lessN ms id) ms, List.mem_append] at h
        rcases h with h | h
        · exact .inl h
        · exact .inr (.inr h)
/-- The row behind With. -/
def withR (ms : List Mem) (id wt : Int) : List Mem := rwEnd id wt (rwTo ms id wt ms.length)
theorem withR_there {ms : List Mem} (hU : Up ms) {id : Int} (wt : Int) {k : Nat} (hk : k < ms.length) (hid : (ms.getD k (0, 0)).1 = id) : ms.map (put id wt) = withR ms id wt := by
  have hin : ∃ y ∈ ms, y.1 = id := ⟨ms.getD k (0, 0), by rw [List.getD_eq_getElem?_getD, List.getElem?_eq_getElem hk]; exact List.getElem_mem _, hid⟩
  have h1 := map_put_law hU id wt hin
  have h2 := rwEnd_law hU id wt
  exact Up.ext h1.1 h2.1 fun x => (h1.2 x).trans (h2.2 x).symm
theorem withR_new {ms : List Mem} (hU : Up ms) {id : Int} (wt : Int) {k : Nat} (hkl : lessN ms id = k) (hid : k < ms.length → (ms.getD k (0, 0)).1 ≠ id) : insM ms k (id, wt) = withR ms id wt := by
  have hno : ∀ y ∈ ms, y.1 ≠ id := fun y hy e => by
    obtain ⟨j, hj, rfl⟩ := List.mem_iff_getElem.1 hy
    have h1 := lessN_at hU j hj
    have eg : ms.getD j (0, 0) = ms[j] := by rw [List.getD_eq_getElem?_getD, List.getElem?_eq_getElem hj]; rfl
    rw [eg, e, hkl] at h1
    subst h1
    exact hid hj (by rw [eg]; exact e)
  have h1 := insM_law hU id wt hno
  have h2 := rwEnd_law hU id wt
  rw [hkl] at h1
  exact Up.ext h1.1 h2.1 fun x => (h1.2 x).trans (h2.2 x).symm
end Go.Proofs.Ytmdffmajnbokeaa
