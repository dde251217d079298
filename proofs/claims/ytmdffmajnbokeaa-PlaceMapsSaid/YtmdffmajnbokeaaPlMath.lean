/-
  PLAIN LAWS of placing: the least straws one behind the other; what a greater weight moves. No program in sight.
-/
namespace Go.Proofs.Ytmdffmajnbokeaa.PlMath
abbrev Mem := Int × Int
def chkL : List Mem → Int → Bool
  | [], _ => true
  | x :: xs, last => decide (last < x.1 ∧ x.1 ≤ 32 ∧ 0 ≤ x.2 ∧ x.2 ≤ 65535) && chkL xs x.1
/-- May a map's members be? -/
def chk (ms : List Mem) : Bool := decide (ms.length ≤ 32) && chkL ms 0
/-- How many have a weight. -/
def wts (ms : List Mem) : Nat := (ms.filter fun x => decide (0 < x.2)).length
def Up (l : List Mem) : Prop := l.Pairwise (fun a b => a.1 < b.1) ∧ ∀ x ∈ l, 1 ≤ x.1 ∧ x.1 ≤ 32 ∧ 0 ≤ x.2 ∧ x.2 ≤ 65535
theorem chkL_up (l : List Mem) : ∀ last, 0 ≤ last → chkL l last = true → Up l ∧ ∀ x ∈ l, last < x.1 := by
  induction l with
  | nil => intro last _ _; exact ⟨⟨List.Pairwise.nil, fun x hx => by cases hx⟩, fun x hx => by cases hx⟩
  | cons a l ih =>
    intro last h0 h
    rw [chkL, Bool.and_eq_true, decide_eq_true_eq] at h
    obtain ⟨⟨h1, h2, h3, h4⟩, h5⟩ := h
    obtain ⟨⟨u1, u2⟩, u3⟩ := ih a.1 (by omega) h5
    refine ⟨⟨List.pairwise_cons.2 ⟨u3, u1⟩, fun x hx => ?_⟩, fun x hx => ?_⟩
    · rcases List.mem_cons.1 hx with rfl | hx
      · exact ⟨by omega, h2, h3, h4⟩
      · exact u2 x hx
    · rcases List.mem_cons.1 hx with rfl | hx
      · exact h1
      · have := u3 x hx; omega
theorem chk_up {ms : List Mem} (h : chk ms = true) : Up ms ∧ ms.length ≤ 32 := by
  unfold chk at h
  rw [Bool.and_eq_true, decide_eq_true_eq] at h
  exact ⟨(chkL_up ms 0 (by omega) h.2).1, h.1⟩
theorem Up.filter {l : List Mem} (h : Up l) (p : Mem → Bool) : Up (l.filter p) :=
  ⟨h.1.filter p, fun x hx => h.2 x (List.mem_filter.1 hx).1⟩
theorem Up.inj {l : List Mem} (h : Up l) {x y : Mem} (hx : x ∈ l) (hy : y ∈ l) (e : x.1 = y.1) : x = y := by
  obtain ⟨h, hz⟩ := h
  clear hz
  induction l with
  | nil => cases hx
  | cons a l ih =>
    obtain ⟨h1, h2⟩ := List.pairwise_cons.1 h
    rcases List.mem_cons.1 hx with ex | hx'
    · rcases List.mem_cons.1 hy with ey | hy'
      · rw [ex, ey]
      · have := h1 y hy'; rw [← ex] at this; omega
    · rcases List.mem_cons.1 hy with ey | hy'
      · have := h1 x hx'; rw [← ey] at this; omega
      · exact ih hx' hy' h2
/-- Rising rows of the same members are the same. -/
theorem Up.ext {l l' : List Mem} (h : l.Pairwise (fun a b => a.1 < b.1)) (h' : l'.Pairwise (fun a b => a.1 < b.1)) (e : ∀ x, x ∈ l ↔ x ∈ l') : l = l' := by
  induction l generalizing l' with
  | nil => exact (List.eq_nil_iff_forall_not_mem.2 fun x hx => by have := (e x).2 hx; cases this).symm
  | cons a l ih =>
    cases l' with
    | nil => have := (e a).1 (List.mem_cons_self ..); cases this
    | cons b l' =>
      obtain ⟨h1, h2⟩ := List.pairwise_cons.1 h
      obtain ⟨g1, g2⟩ := List.pairwise_cons.1 h'
      have ab : a = b := by
        rcases List.mem_cons.1 ((e a).1 (List.mem_cons_self ..)) with h3 | h3
        · exact h3
        · rcases List.mem_cons.1 ((e b).2 (List.mem_cons_self ..)) with h4 | h4
          · exact h4.symm
          · have := h1 b h4; have := g1 a h3; omega
      subst ab
      congr 1
      refine ih h2 g2 fun x => ⟨fun hx => ?_, fun hx => ?_⟩
      · rcases List.mem_cons.1 ((e x).1 (List.mem_cons_of_mem _ hx)) with h3 | h3
        · have := h1 x hx; rw [h3] at this; omega
        · exact h3
      · rcases List.mem_cons.1 ((e x).2 (List.mem_cons_of_mem _ hx)) with h3 | h3
        · have := g1 x hx; rw [h3] at this; omega
        · exact h3
section
variable (c : Nat → Mem → Int)
def stp (r : Nat) (acc : Int × Int) (x : Mem) : Int × Int := if x.2 = 0 then acc else if acc.1 = 0 ∨ c r x < acc.2 then (x.1, c r x) else acc
def bst (r : Nat) (l : List Mem) : Int × Int := l.foldl (stp c r) (0, 0)
def sel (r : Nat) (l : List Mem) : Int := (bst c r l).1
def picks (ms : List Mem) : Nat → List Int
  | 0 => []
  | r + 1 => picks ms r ++ [sel c r (ms.filter fun x => !(picks ms r).contains x.1)]
/-- Who is left. -/
def remL (ms : List Mem) (r : Nat) : List Mem := ms.filter fun x => !(picks c ms r).contains x.1
def Lt (r : Nat) (x y : Mem) : Prop := c r x < c r y ∨ (c r x = c r y ∧ x.1 ≤ y.1)
def Best (r : Nat) (l : List Mem) (x : Mem) : Prop := x ∈ l ∧ x.2 ≠ 0 ∧ ∀ y ∈ l, y.2 ≠ 0 → Lt c r x y
def Inv (r : Nat) (s : List Mem) (acc : Int × Int) : Prop := ((∀ x ∈ s, x.2 = 0) ∧ acc = (0, 0)) ∨ ∃ x, Best c r s x ∧ acc = (x.1, c r x)
variable {c}
theorem inv_step {r : Nat} {s : List Mem} {acc : Int × Int} {a : Mem} (h : Inv c r s acc) (hlt : ∀ x ∈ s, x.1 < a.1) (hpos : ∀ x ∈ s, 1 ≤ x.1) : Inv c r (s ++ [a]) (stp c r acc a) := by
  unfold stp
  by_cases ha : a.2 = 0
  · rw [if_pos ha]
    rcases h with ⟨h1, h2⟩ | ⟨x, ⟨b1, b2, b3⟩, h2⟩
    · refine .inl ⟨fun x hx => ?_, h2⟩
      rcases List.mem_append.1 hx with hx | hx
      · exact h1 x hx
      · rw [List.mem_singleton.1 hx]; exact ha
    · refine .inr ⟨x, ⟨List.mem_append_left _ b1, b2, fun y hy h0 => ?_⟩, h2⟩
      rcases List.mem_append.1 hy with hy | hy
      · exact b3 y hy h0
      · rw [List.mem_singleton.1 hy] at h0; exact absurd ha h0
  · rw [if_neg ha]
    rcases h with ⟨h1, h2⟩ | ⟨x, ⟨b1, b2, b3⟩, h2⟩
    · rw [h2, if_pos (.inl rfl)]
      refine .inr ⟨a, ⟨List.mem_append_right _ (List.mem_singleton.2 rfl), ha, fun y hy h0 => ?_⟩, rfl⟩
      rcases List.mem_append.1 hy with hy | hy
      · exact absurd (h1 y hy) h0
      · rw [List.mem_singleton.1 hy]; exact .inr ⟨rfl, Int.le_refl _⟩
    · rw [h2]
      have hx1 := hpos x b1
      by_cases hc : c r a < c r x
      · rw [if_pos (.inr hc)]
        refine .inr ⟨a, ⟨List.mem_append_right _ (List.mem_singleton.2 rfl), ha, fun y hy h0 => ?_⟩, rfl⟩
        rcases List.mem_append.1 hy with hy | hy
        · have := b3 y hy h0; unfold Lt at this ⊢; omega
        · rw [List.mem_singleton.1 hy]; exact .inr ⟨rfl, Int.le_refl _⟩
      · rw [if_neg (by simp only; omega)]
        refine .inr ⟨x, ⟨List.mem_append_left _ b1, b2, fun y hy h0 => ?_⟩, rfl⟩
        rcases List.mem_append.1 hy with hy | hy
        · exact b3 y hy h0
        · rw [List.mem_singleton.1 hy]
          have := hlt x b1
          unfold Lt; omega
theorem inv_fold (r : Nat) (l : List Mem) : ∀ (s : List Mem) (acc : Int × Int), (s ++ l).Pairwise (fun a b => a.1 < b.1) → (∀ x ∈ s ++ l, 1 ≤ x.1) → Inv c r s acc → Inv c r (s ++ l) (l.foldl (stp c r) acc) := by
  induction l with
  | nil => intro s acc _ _ h; simpa using h
  | cons a l ih =>
    intro s acc hp h1 h
    rw [List.foldl_cons, show s ++ a :: l = (s ++ [a]) ++ l from by simp]
    refine ih (s ++ [a]) _ (by simpa using hp) (by simpa using h1) (inv_step h ?_ fun x hx => h1 x (List.mem_append_left _ hx))
    intro x hx
    exact (List.pairwise_append.1 hp).2.2 x hx a (List.mem_cons_self ..)
theorem bst_spec (r : Nat) {l : List Mem} (h : Up l) : Inv c r l (bst c r l) := by
  have := inv_fold (c := c) r l [] (0, 0) (by simpa using h.1) (fun x hx => (h.2 x (by simpa using hx)).1) (.inl ⟨fun x hx => by (cases hx), rfl⟩)
  simpa [bst] using this
theorem Best.uniq {r : Nat} {l : List Mem} (h : Up l) {x y : Mem} (hx : Best c r l x) (hy : Best c r l y) : x = y := by
  have h1 := hx.2.2 y hy.1 hy.2.1
  have h2 := hy.2.2 x hx.1 hx.2.1
  unfold Lt at h1 h2
  exact h.inj hx.1 hy.1 (by omega)
theorem sel_best {r : Nat} {l : List Mem} (h : Up l) {x : Mem} (hx : Best c r l x) : bst c r l = (x.1, c r x) := by
  rcases bst_spec (c := c) r h with ⟨h1, _⟩ | ⟨y, hy, e⟩
  · exact absurd (h1 x hx.1) hx.2.1
  · rw [e, Best.uniq h hx hy]
theorem best_of {r : Nat} {l : List Mem} (h : Up l) {x : Mem} (hx : x ∈ l) (h0 : x.2 ≠ 0) : ∃ y, Best c r l y ∧ bst c r l = (y.1, c r y) := by
  rcases bst_spec (c := c) r h with ⟨h1, _⟩ | h1
  · exact absurd (h1 x hx) h0
  · exact h1
theorem picks_succ (ms : List Mem) (r : Nat) : picks c ms (r + 1) = picks c ms r ++ [sel c r (remL c ms r)] := rfl
theorem remL_zero (ms : List Mem) : remL c ms 0 = ms := by unfold remL picks; simp
theorem remL_up {ms : List Mem} (h : Up ms) (r : Nat) : Up (remL c ms r) := h.filter _
theorem remL_succ (ms : List Mem) (r : Nat) : remL c ms (r + 1) = (remL c ms r).filter fun x => decide (x.1 ≠ sel c r (remL c ms r)) := by
  show ms.filter _ = (ms.filter _).filter _
  rw [List.filter_filter]
  refine List.filter_congr fun x _ => ?_
  rw [picks_succ]
  by_cases h1 : x.1 ∈ picks c ms r <;> by_cases h2 : x.1 = sel c r (remL c ms r) <;> simp [h1, h2]
theorem picks_length (ms : List Mem) (r : Nat) : (picks c ms r).length = r := by
  induction r with
  | zero => rfl
  | succ r ih => rw [picks_succ, List.length_append, ih]; rfl
theorem picks_take (ms : List Mem) (n k : Nat) (h : k ≤ n) : (picks c ms n).take k = picks c ms k := by
  induction n with
  | zero => obtain rfl : k = 0 := by omega
            rfl
  | succ n ih =>
    rcases Nat.lt_or_ge n k with h1 | h1
    · obtain rfl : k = n + 1 := by omega
      rw [List.take_of_length_le (by rw [picks_length]; omega)]
    · rw [picks_succ, List.take_append_of_le_length (by rw [picks_length]; omega), ih h1]
theorem wts_cut {l : List Mem} (h : Up l) (s : Int) : wts l ≤ wts (l.filter fun x => decide (x.1 ≠ s)) + 1 := by
  obtain ⟨h, hz⟩ := h
  clear hz
  induction l with
  | nil => simp [wts]
  | cons a l ih =>
    obtain ⟨h1, h2⟩ := List.pairwise_cons.1 h
    have := ih h2
    by_cases ha : a.1 = s
    · have e : (l.filter fun x => decide (x.1 ≠ s)) = l := List.filter_eq_self.2 fun x hx => by have := h1 x hx; simp; omega
      rw [List.filter_cons_of_neg (by simpa using ha), e]
      unfold wts
      rw [List.filter_cons]
      split <;> simp
    · rw [List.filter_cons_of_pos (by simpa using ha)]
      unfold wts at this ⊢
      rw [List.filter_cons, List.filter_cons]
      split
      · rw [List.length_cons, List.length_cons]; omega
      · exact this
theorem wts_rem {ms : List Mem} (h : Up ms) (r : Nat) : wts ms ≤ wts (remL c ms r) + r := by
  induction r with
  | zero => rw [remL_zero]; omega
  | succ r ih =>
    have := wts_cut (remL_up (c := c) h r) (sel c r (remL c ms r))
    rw [remL_succ]; omega
theorem best_at {ms : List Mem} (h : Up ms) {r n : Nat} (hn : n ≤ wts ms) (hr : r < n) : ∃ x, Best c r (remL c ms r) x ∧ bst c r (remL c ms r) = (x.1, c r x) ∧ sel c r (remL c ms r) = x.1 := by
  have h1 := wts_rem (c := c) h r
  have h2 : 0 < wts (remL c ms r) := by omega
  obtain ⟨x, hx⟩ := List.exists_mem_of_length_pos h2
  have hm := List.mem_filter.1 hx
  obtain ⟨y, hy, e⟩ := best_of (c := c) (r := r) (remL_up h r) hm.1 (by have := hm.2; simp at this; omega)
  exact ⟨y, hy, e, by unfold sel; rw [e]⟩
theorem picks_get (ms : List Mem) (n k : Nat) (h : k < n) : (picks c ms n)[k]? = some (sel c k (remL c ms k)) := by
  have h1 := picks_take (c := c) ms n (k + 1) h
  have h2 : ((picks c ms n).take (k + 1))[k]? = (picks c ms n)[k]? := List.getElem?_take_of_lt (by omega)
  rw [← h2, h1, picks_succ, List.getElem?_append_right (by rw [picks_length]; omega), picks_length]
  simp
/-- Each one is a member with a weight, and unlike those ahead of it. -/
theorem picks_apart {ms : List Mem} (h : Up ms) {n k : Nat} (hn : n ≤ wts ms) (hk : k < n) :
    ∃ x, (picks c ms n)[k]? = some x.1 ∧ x ∈ ms ∧ 0 < x.2 ∧ x.1 ∉ (picks c ms n).take k := by
  obtain ⟨x, hx, _, e⟩ := best_at (c := c) h hn hk
  have hm := List.mem_filter.1 hx.1
  refine ⟨x, by rw [picks_get ms n k hk, e], hm.1, ?_, ?_⟩
  · have := h.2 x hm.1; have := hx.2.1; omega
  · rw [picks_take ms n k (by omega)]
    have := hm.2
    simpa using this
theorem mem_picks {ms : List Mem} (h : Up ms) {n : Nat} (hn : n ≤ wts ms) (r : Nat) (hr : r ≤ n) (i : Int) : i ∈ picks c ms r ↔ (∃ x ∈ ms, x.1 = i) ∧ ¬ ∃ x ∈ remL c ms r, x.1 = i := by
  constructor
  · intro hi
    refine ⟨?_, ?_⟩
    · obtain ⟨k, hk, e⟩ := List.mem_iff_getElem.1 hi
      rw [picks_length] at hk
      obtain ⟨x, hx, _, e2⟩ := best_at (c := c) h hn (show k < n by omega)
      have h3 := picks_get (c := c) ms r k hk
      rw [List.getElem?_eq_getElem (by rw [picks_length]; exact hk), e, e2] at h3
      exact ⟨x, (List.mem_filter.1 hx.1).1, by injection h3 with h3; exact h3.symm⟩
    · rintro ⟨x, hx, rfl⟩
      have := (List.mem_filter.1 hx).2
      simp at this
      exact this hi
  · rintro ⟨⟨x, hx, rfl⟩, h2⟩
    rcases Classical.em (x.1 ∈ picks c ms r) with h3 | h3
    · exact h3
    · exact absurd ⟨x, List.mem_filter.2 ⟨hx, by simpa using h3⟩, rfl⟩ h2
theorem picks_nodup {ms : List Mem} (h : Up ms) {n : Nat} (hn : n ≤ wts ms) (r : Nat) (hr : r ≤ n) : (picks c ms r).Nodup := by
  induction r with
  | zero => exact List.nodup_nil
  | succ r ih =>
    obtain ⟨x, hx, _, e⟩ := best_at (c := c) h hn (show r < n by omega)
    rw [picks_succ, e]
    have := (List.mem_filter.1 hx.1).2
    simp at this
    refine List.nodup_append.2 ⟨ih (by omega), by simp, ?_⟩
    intro a ha b hb e2
    rw [List.mem_singleton.1 hb] at e2
    rw [e2] at ha
    exact this ha
end
/-! ### One weight changes -/
section
variable {c : Nat → Mem → Int}
/-- Member i has weight w now. -/
def put (i w : Int) (x : Mem) : Mem := if x.1 = i then (i, w) else x
theorem put_fst (i w : Int) (x : Mem) : (put i w x).1 = x.1 := by unfold put; split <;> simp_all
def StA (i w : Int) (l l' : List Mem) : Prop := l' = l.map (put i w)
def StB (i : Int) (l l' : List Mem) : Prop := (∀ y ∈ l', y.1 ≠ i) ∧ ∃ a b, a ∈ l ∧ b ∈ l' ∧ a.1 ≠ b.1 ∧ ∀ y, (y ∈ l ∧ y.1 ≠ a.1) ↔ (y ∈ l' ∧ y.1 ≠ b.1)
theorem map_put_id {i w : Int} {l : List Mem} (h : ∀ y ∈ l, y.1 ≠ i) : l.map (put i w) = l := by
  conv => rhs; rw [← List.map_id l]
  exact List.map_congr_left fun x hx => by unfold put; rw [if_neg (h x hx)]; rfl
theorem filter_map_put (i w s : Int) (l : List Mem) : (l.map (put i w)).filter (fun x => decide (x.1 ≠ s)) = (l.filter fun x => decide (x.1 ≠ s)).map (put i w) := by
  rw [List.filter_map]
  congr 1
  refine List.filter_congr fun x _ => ?_
  show decide ((put i w x).1 ≠ s) = _
  rw [put_fst]
/-- The choice out of the same, but for one that is heavier. -/
theorem choice_a {r : Nat} {i w : Int} {l : List Mem} (hU : Up l) {p q : Mem} (hp : Best c r l p) (hq : Best c r (l.map (put i w)) q)
    (hw : ∀ x ∈ l, x.1 = i → x.2 ≤ w) (hc : ∀ x ∈ l, x.1 = i → x.2 ≠ 0 → c r (i, w) ≤ c r x) : q.1 = p.1 ∨ (q.1 = i ∧ p.1 ≠ i) := by
  by_cases e : q.1 = i
  · by_cases e2 : p.1 = i
    · left; rw [e, e2]
    · exact .inr ⟨e, e2⟩
  · left
    obtain ⟨z, hz, ez⟩ := List.mem_map.1 hq.1
    have hzi : z.1 ≠ i := by rw [← put_fst i w z, ez]; exact e
    have ez' : z = q := by rw [← ez]; unfold put; rw [if_neg hzi]
    subst ez'
    have h1 := hp.2.2 z hz hq.2.1
    by_cases e2 : p.1 = i
    · have hpm : put i w p = (i, w) := by unfold put; rw [if_pos e2]
      have h0 := hU.2 p hp.1
      have hpw := hw p hp.1 e2
      have hp0 := hp.2.1
      have h2 := hq.2.2 (put i w p) (List.mem_map_of_mem hp.1) (by rw [hpm]; show w ≠ 0; omega)
      have h3 := hc p hp.1 e2 hp0
      rw [hpm] at h2
      unfold Lt at h1 h2
      simp only at h2
      omega
    · have h2 := hq.2.2 p (List.mem_map.2 ⟨p, hp.1, by unfold put; rw [if_neg e2]⟩) hp.2.1
      unfold Lt at h1 h2
      omega
theorem step_a {r : Nat} {i w : Int} {l l' : List Mem} (h : StA i w l l') (hU : Up l) {p q : Mem} (hp : Best c r l p) (hq : Best c r l' q)
    (hw : ∀ x ∈ l, x.1 = i → x.2 ≤ w) (hc : ∀ x ∈ l, x.1 = i → x.2 ≠ 0 → c r (i, w) ≤ c r x) :
    StA i w (l.filter fun x => decide (x.1 ≠ p.1)) (l'.filter fun x => decide (x.1 ≠ q.1)) ∨ StB i (l.filter fun x => decide (x.1 ≠ p.1)) (l'.filter fun x => decide (x.1 ≠ q.1)) := by
  unfold StA at h
  subst h
  rcases choice_a hU hp hq hw hc with e | ⟨e1, e2⟩
  · left; unfold StA; rw [e, filter_map_put]
  · right
    obtain ⟨z, hz, ez⟩ := List.mem_map.1 hq.1
    have hzi : z.1 = i := by rw [← put_fst i w z, ez]; exact e1
    refine ⟨fun y hy => ?_, z, p, ?_, ?_, ?_, ?_⟩
    · have := (List.mem_filter.1 hy).2
      rw [e1] at this
      simpa using this
    · exact List.mem_filter.2 ⟨hz, by simp; omega⟩
    · refine List.mem_filter.2 ⟨List.mem_map.2 ⟨p, hp.1, by unfold put; rw [if_neg e2]⟩, by simp; omega⟩
    · omega
    · intro y
      rw [List.mem_filter, List.mem_filter, e1, hzi]
      simp only [ne_eq, decide_eq_true_eq]
      constructor
      · rintro ⟨⟨h1, h2⟩, h3⟩
        exact ⟨⟨List.mem_map.2 ⟨y, h1, by unfold put; rw [if_neg h3]⟩, h3⟩, h2⟩
      · rintro ⟨⟨h1, h2⟩, h3⟩
        obtain ⟨u, hu, eu⟩ := List.mem_map.1 h1
        have hui : u.1 ≠ i := by rw [← put_fst i w u, eu]; exact h2
        have : u = y := by rw [← eu]; unfold put; rw [if_neg hui]
        subst this
        exact ⟨⟨hu, h3⟩, h2⟩
theorem step_b {r : Nat} {i w : Int} {l l' : List Mem} (h : StB i l l') (hU : Up l) (hU' : Up l') {p q : Mem} (hp : Best c r l p) (hq : Best c r l' q) :
    StA i w (l.filter fun x => decide (x.1 ≠ p.1)) (l'.filter fun x => decide (x.1 ≠ q.1)) ∨ StB i (l.filter fun x => decide (x.1 ≠ p.1)) (l'.filter fun x => decide (x.1 ≠ q.1)) := by
  obtain ⟨hi, a, b, ha, hb, hab, hiff⟩ := h
  have hi' : ∀ y ∈ l'.filter (fun x => decide (x.1 ≠ q.1)), y.1 ≠ i := fun y hy => hi y ((List.mem_filter.1 hy).1)
  by_cases e1 : p.1 = a.1
  · by_cases e2 : q.1 = b.1
    · left
      have e : (l'.filter fun x => decide (x.1 ≠ q.1)) = (l.filter fun x => decide (x.1 ≠ p.1)) := by
        refine Up.ext (hU'.1.filter _) (hU.1.filter _) fun y => ?_
        rw [List.mem_filter, List.mem_filter, e1, e2]
        simp only [ne_eq, decide_eq_true_eq]
        exact (hiff y).symm
      unfold StA
      rw [e] at hi' ⊢
      exact (map_put_id hi').symm
    · right
      have hql := (hiff q).2 ⟨hq.1, e2⟩
      refine ⟨hi', q, b, List.mem_filter.2 ⟨hql.1, by have := hql.2; simp; omega⟩, List.mem_filter.2 ⟨hb, by simp; omega⟩, e2, fun y => ?_⟩
      rw [List.mem_filter, List.mem_filter, e1]
      simp only [ne_eq, decide_eq_true_eq]
      have := hiff y
      constructor
      · rintro ⟨h1, h2⟩; have := this.1 h1; exact ⟨⟨this.1, h2⟩, this.2⟩
      · rintro ⟨⟨h1, h2⟩, h3⟩; exact ⟨this.2 ⟨h1, h3⟩, h2⟩
  · right
    have hpl := (hiff p).1 ⟨hp.1, e1⟩
    by_cases e2 : q.1 = b.1
    · refine ⟨hi', a, p, List.mem_filter.2 ⟨ha, by simp; omega⟩, List.mem_filter.2 ⟨hpl.1, by have := hpl.2; simp; omega⟩, by omega, fun y => ?_⟩
      rw [List.mem_filter, List.mem_filter, e2]
      simp only [ne_eq, decide_eq_true_eq]
      have := hiff y
      constructor
      · rintro ⟨⟨h1, h2⟩, h3⟩; exact ⟨this.1 ⟨h1, h3⟩, h2⟩
      · rintro ⟨h1, h2⟩; have := this.2 h1; exact ⟨⟨this.1, h2⟩, this.2⟩
    · have hql := (hiff q).2 ⟨hq.1, e2⟩
      have h1 := hp.2.2 q hql.1 hq.2.1
      have h2 := hq.2.2 p hpl.1 hp.2.1
      unfold Lt at h1 h2
      have e3 : p.1 = q.1 := by omega
      refine ⟨hi', a, b, List.mem_filter.2 ⟨ha, by simp; omega⟩, List.mem_filter.2 ⟨hb, by simp; omega⟩, hab, fun y => ?_⟩
      rw [List.mem_filter, List.mem_filter, e3]
      simp only [ne_eq, decide_eq_true_eq]
      have := hiff y
      constructor
      · rintro ⟨⟨h1, h2⟩, h3⟩; have := this.1 ⟨h1, h3⟩; exact ⟨⟨this.1, h2⟩, this.2⟩
      · rintro ⟨⟨h1, h2⟩, h3⟩; have := this.2 ⟨h1, h3⟩; exact ⟨⟨this.1, h2⟩, this.2⟩
theorem up_put {ms : List Mem} (h : Up ms) {i w : Int} (hw : 0 ≤ w ∧ w ≤ 65535) : Up (ms.map (put i w)) := by
  refine ⟨List.pairwise_map.2 (h.1.imp fun {a b} hab => by rw [put_fst, put_fst]; exact hab), fun x hx => ?_⟩
  obtain ⟨y, hy, rfl⟩ := List.mem_map.1 hx
  have := h.2 y hy
  unfold put
  split
  · rename_i e; exact ⟨by rw [← e]; exact this.1, by rw [← e]; exact this.2.1, hw.1, hw.2⟩
  · exact this
theorem states {ms : List Mem} (h : Up ms) {i w : Int} (hw0 : 0 ≤ w ∧ w ≤ 65535) {n : Nat} (hn : n ≤ wts ms) (hn' : n ≤ wts (ms.map (put i w)))
    (hw : ∀ x ∈ ms, x.1 = i → x.2 ≤ w) (hc : ∀ r, ∀ x ∈ ms, x.1 = i → x.2 ≠ 0 → c r (i, w) ≤ c r x) (r : Nat) (hr : r ≤ n) :
    StA i w (remL c ms r) (remL c (ms.map (put i w)) r) ∨ StB i (remL c ms r) (remL c (ms.map (put i w)) r) := by
  have hU' := up_put h (i := i) hw0
  induction r with
  | zero => rw [remL_zero, remL_zero]; exact .inl rfl
  | succ r ih =>
    obtain ⟨p, hp, _, ep⟩ := best_at (c := c) h hn (show r < n by omega)
    obtain ⟨q, hq, _, eq⟩ := best_at (c := c) hU' hn' (show r < n by omega)
    rw [remL_succ, remL_succ, ep, eq]
    rcases ih (by omega) with ih | ih
    · exact step_a ih (remL_up h r) hp hq (fun x hx => hw x ((List.mem_filter.1 hx).1)) (fun x hx => hc r x ((List.mem_filter.1 hx).1))
    · exact step_b ih (remL_up h r) (remL_up hU' r) hp hq
theorem nodup_one {l : List Int} (h : l.Nodup) {b : Int} (hb : ∀ x ∈ l, x = b) : l.length ≤ 1 := by
  match l, h, hb with
  | [], _, _ => simp
  | [_], _, _ => simp
  | x :: y :: l, h, hb =>
    have h1 := hb x (by simp)
    have h2 := hb y (by simp)
    have := (List.nodup_cons.1 h).1
    rw [h1, h2] at this
    simp at this
theorem mem_ids_put (i w : Int) (ms : List Mem) (j : Int) : (∃ x ∈ ms.map (put i w), x.1 = j) ↔ ∃ x ∈ ms, x.1 = j := by
  constructor
  · rintro ⟨x, hx, e⟩
    obtain ⟨y, hy, rfl⟩ := List.mem_map.1 hx
    exact ⟨y, hy, by rw [← put_fst i w y]; exact e⟩
  · rintro ⟨x, hx, e⟩
    exact ⟨_, List.mem_map_of_mem hx, by rw [put_fst]; exact e⟩
/-- Of those chosen with the lesser weight at most one is no more chosen with the greater one; none, if the heavier one is not chosen, and one at least if it is and was not. -/
theorem moves_one {ms : List Mem} (h : Up ms) {i w : Int} (hw0 : 0 ≤ w ∧ w ≤ 65535) {n : Nat} (hn : n ≤ wts ms) (hn' : n ≤ wts (ms.map (put i w)))
    (hw : ∀ x ∈ ms, x.1 = i → x.2 ≤ w) (hc : ∀ r, ∀ x ∈ ms, x.1 = i → x.2 ≠ 0 → c r (i, w) ≤ c r x) :
    ((picks c ms n).filter fun y => !(picks c (ms.map (put i w)) n).contains y).length ≤ 1 ∧
    (i ∉ picks c (ms.map (put i w)) n → (∃ x ∈ ms, x.1 = i) → ((picks c ms n).filter fun y => !(picks c (ms.map (put i w)) n).contains y).length = 0) ∧
    (i ∈ picks c (ms.map (put i w)) n → i ∉ picks c ms n → ((picks c ms n).filter fun y => !(picks c (ms.map (put i w)) n).contains y).length = 1) := by
  have hU' := up_put h (i := i) hw0
  have m1 := fun j => mem_picks (c := c) h hn n (Nat.le_refl _) j
  have m2 := fun j => mem_picks (c := c) hU' hn' n (Nat.le_refl _) j
  have hd := picks_nodup (c := c) h hn n (Nat.le_refl _)
  have hst := states (c := c) h hw0 hn hn' hw hc n (Nat.le_refl _)
  have key : ∀ j, j ∈ (picks c ms n).filter (fun y => !(picks c (ms.map (put i w)) n).contains y) ↔ (j ∈ picks c ms n ∧ j ∉ picks c (ms.map (put i w)) n) := fun j => by
    rw [List.mem_filter]; simp
  rcases hst with hA | ⟨hi, a, b, ha, hb, hab, hiff⟩
  · have e : ∀ j, j ∈ picks c ms n ↔ j ∈ picks c (ms.map (put i w)) n := fun j => by
      rw [m1 j, m2 j, mem_ids_put]
      unfold StA at hA
      rw [hA, mem_ids_put]
    have e0 : (picks c ms n).filter (fun y => !(picks c (ms.map (put i w)) n).contains y) = [] :=
      List.eq_nil_iff_forall_not_mem.2 fun j hj => by
        have := (key j).1 hj
        exact this.2 ((e j).1 this.1)
    rw [e0]
    refine ⟨by simp, fun _ _ => rfl, fun h1 h2 => absurd ((e i).2 h1) h2⟩
  · have hall : ∀ j ∈ (picks c ms n).filter (fun y => !(picks c (ms.map (put i w)) n).contains y), j = b.1 := fun j hj => by
      obtain ⟨k1, k2⟩ := (key j).1 hj
      obtain ⟨⟨x, hx, ex⟩, k3⟩ := (m1 j).1 k1
      have k4 : ∃ x ∈ remL c (ms.map (put i w)) n, x.1 = j := by
        rcases Classical.em (∃ x ∈ remL c (ms.map (put i w)) n, x.1 = j) with h5 | h5
        · exact h5
        · exact absurd ((m2 j).2 ⟨(mem_ids_put i w ms j).2 ⟨x, hx, ex⟩, h5⟩) k2
      obtain ⟨y, hy, ey⟩ := k4
      rcases Classical.em (y.1 = b.1) with h5 | h5
      · rw [← ey, h5]
      · exact absurd ⟨y, ((hiff y).2 ⟨hy, h5⟩).1, ey⟩ k3
    have hlen := nodup_one (hd.filter _) hall
    refine ⟨hlen, fun h1 h2 => ?_, fun h1 h2 => ?_⟩
    · obtain ⟨x, hx, ex⟩ := h2
      exfalso
      refine h1 ((m2 i).2 ⟨(mem_ids_put i w ms i).2 ⟨x, hx, ex⟩, ?_⟩)
      rintro ⟨y, hy, ey⟩
      exact hi y hy ey
    · have hbm : b.1 ∈ (picks c ms n).filter (fun y => !(picks c (ms.map (put i w)) n).contains y) := by
        refine (key b.1).2 ⟨(m1 b.1).2 ⟨?_, ?_⟩, fun h3 => ((m2 b.1).1 h3).2 ⟨b, hb, rfl⟩⟩
        · exact (mem_ids_put i w ms b.1).1 ⟨b, (List.mem_filter.1 hb).1, rfl⟩
        · rintro ⟨y, hy, ey⟩
          have hya : y.1 ≠ a.1 := by omega
          exact ((hiff y).1 ⟨hy, hya⟩).2 ey
      have := List.length_pos_of_mem hbm
      omega
/-- The first one: the same, or the one that is heavier. -/
theorem moves_first {ms : List Mem} (h : Up ms) {i w : Int} (hw0 : 0 ≤ w ∧ w ≤ 65535) {n : Nat} (h1 : 0 < n) (hn : n ≤ wts ms) (hn' : n ≤ wts (ms.map (put i w)))
    (hw : ∀ x ∈ ms, x.1 = i → x.2 ≤ w) (hc : ∀ r, ∀ x ∈ ms, x.1 = i → x.2 ≠ 0 → c r (i, w) ≤ c r x) :
    ∃ s t, (picks c ms n)[0]? = some s ∧ (picks c (ms.map (put i w)) n)[0]? = some t ∧ (t = s ∨ t = i) := by
  have hU' := up_put h (i := i) hw0
  obtain ⟨p, hp, _, ep⟩ := best_at (c := c) h hn h1
  obtain ⟨q, hq, _, eq⟩ := best_at (c := c) hU' hn' h1
  refine ⟨p.1, q.1, by rw [picks_get ms n 0 h1, ep], by rw [picks_get _ n 0 h1, eq], ?_⟩
  rw [remL_zero] at hp hq
  rcases choice_a h hp hq hw (hc 0) with e | ⟨e, _⟩
  · exact .inl e
  · exact .inr e
theorem wts_put {ms : List Mem} {i w : Int} (hw : ∀ x ∈ ms, x.1 = i → x.2 ≤ w) : wts ms ≤ wts (ms.map (put i w)) := by
  induction ms with
  | nil => simp
  | cons a l ih =>
    have h1 := ih fun x hx => hw x (List.mem_cons_of_mem _ hx)
    have h2 := hw a (List.mem_cons_self ..)
    unfold wts at h1 ⊢
    rw [List.map_cons, List.filter_cons, List.filter_cons]
    have h3 : 0 < a.2 → 0 < (put i w a).2 := fun h0 => by
      unfold put
      split
      · rename_i e; have := h2 e; show 0 < w; omega
      · exact h0
    by_cases h0 : 0 < a.2
    · rw [if_pos (by simpa using h0), if_pos (by simpa using h3 h0)]
      simp only [List.length_cons]; omega
    · rw [if_neg (by simpa using h0)]
      split
      · simp only [List.length_cons]; omega
      · exact h1
end
end Go.Proofs.Ytmdffmajnbokeaa.PlMath
