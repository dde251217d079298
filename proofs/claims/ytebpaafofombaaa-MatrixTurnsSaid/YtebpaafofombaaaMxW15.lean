/-
  clear.
-/
import Derived.Test.YtebpaafofombaaaMxW14
import Derived.Test.YtebpaafofombaaaRegLate
import Derived.Deep.RegionHeld3
namespace Go.Proofs.Ytebpaafofombaaa
open Go.RowKit GfMath MxMath
set_option linter.unusedVariables false
theorem row_reads {w : World} {base g c r n i : Nat} {M : Mat} {D : Option Addr} {d : Nat} (h : OwnM w base (.slice (some ⟨g, 0, none⟩) r c) (lmat r n M)) (hi : i < r) (hc : w.cell? ⟨g, i, none⟩ = some (.slice D n d)) : Reads w w.heap.size 1 D n ((lrow n (M i)).map bv) := by
  obtain ⟨D', d', h1, _, _, _, h2⟩ := h.cell hi
  rw [hc] at h1
  cases h1
  exact Reads.of_own h2
theorem piv2_row (d : Nat) (c : El) (M : Mat) (q : Nat) : piv2 d c M q = if q = d then (fun j => M d j * inv c) else M q := by
  funext j
  unfold piv2
  rw [scl_act]
  by_cases e : q = d
  · rw [if_pos e, if_pos e, e, mulC]
  · rw [if_neg e, if_neg e]
/-- Rows ahead of k are done. -/
def part (k : Nat) (P N : Mat) : Mat := fun q => if q < k then P q else N q
theorem part_zero (P N : Mat) : part 0 P N = N := by funext q; simp [part]
theorem part_at (k : Nat) (P N : Mat) : part k P N k = N k := by simp [part]
theorem part_succ (k : Nat) (P N : Mat) (q : Nat) : part (k + 1) P N q = if q = k then P k else part k P N q := by
  unfold part
  by_cases e : q = k
  · subst e; simp
  · rw [if_neg e]
    by_cases h : q < k
    · rw [if_pos h, if_pos (by omega)]
    · rw [if_neg h, if_neg (by omega)]
theorem part_same {k : Nat} {P N : Mat} (h : P k = N k) : part (k + 1) P N = part k P N := by
  funext q
  rw [part_succ]
  by_cases e : q = k
  · rw [if_pos e, e, part_at, h]
  · rw [if_neg e]
theorem piv3_own (d : Nat) (c : Nat → El) (N : Mat) : piv3 d c N d = N d := by funext j; unfold piv3; rw [clr_act, if_pos rfl]
theorem piv3_none {d k : Nat} {c : Nat → El} (N : Mat) (h : c k = 0) : piv3 d c N k = N k := by
  funext j; unfold piv3; rw [clr_act]
  by_cases e : k = d
  · rw [if_pos e]
  · rw [if_neg e, h, zmul, add0]
theorem piv3_row {d k : Nat} (c : Nat → El) (N : Mat) (h : k ≠ d) : piv3 d c N k = fun j => N k j + N d j * c k := by
  funext j; unfold piv3; rw [clr_act, if_neg h, mulC]
theorem two_congr {w : World} {base r n : Nat} {v : Value} {M K : Mat} (h : ∀ q, q < r → M q = K q) (hM : OwnM w base v (lmat r n M)) : OwnM w base v (lmat r n K) := by
  rwa [lmat_congr (K := K) (fun i j hi _ => by rw [h i hi])] at hM
theorem part_own {k d : Nat} {P N : Mat} (h : P d = N d) : part k P N d = N d := by
  unfold part
  by_cases e : d < k
  · rw [if_pos e, h]
  · rw [if_neg e]
theorem row_far {w : World} {base base' g c m : Nat} {u : Value} {ls : List (List Nat)} {xs : List Value} (h : OwnM w base (.slice (some ⟨g, 0, none⟩) m c) ls) {k : Nat} (hu : w.ownsRow base' 5 1 u k xs) : u.ownBlock ≠ some g := by
  obtain ⟨vs, ho, _⟩ := h
  exact own_apart hu ho (by decide) rfl
set_option maxRecDepth 100000 in
set_option maxHeartbeats 1000000 in
theorem clear_any (w0 w : World) (g c g' c' r n n' d col : Nat) (L R : Mat) (hT : Hid (Two w0 w g c g' c' r n n' L R w)) (hd : d < r) (hcol : col < n) (hx : L d col ≠ 0) (r1 : r ≤ 255) (n1 : n ≤ 255) (n1' : n' ≤ 255) (hc : r ≤ c) (hc' : r ≤ c') (hm : c ≤ maxLen) (hm' : c' ≤ maxLen) :
    Calls Try.prog 43 #[.agg #[.slice (some ⟨g, 0, none⟩) r c, .slice (some ⟨g', 0, none⟩) r c'], .int .i64 d, .int .i64 col] w fun e w' => e = .returned (.tuple #[]) ∧ Two w0 w g c g' c' r n n' (piv3 d (fun q => piv2 d (L d col) L q col) (piv2 d (L d col) L)) (piv3 d (fun q => piv2 d (L d col) L q col) (piv2 d (L d col) R)) w' := by
  unfold maxLen at hm hm'
  have hB := Blk.new w 65 #[.slice (some ⟨g, 0, none⟩) r c, .slice (some ⟨g', 0, none⟩) r c']
  have hT1 := Lib.hid (hT.out.later ((Below.refl _ _).alloc (Nat.le_refl _) (.cells #[.slice (some ⟨g, 0, none⟩) r c, .slice (some ⟨g', 0, none⟩) r c'] 65)))
  have b0 := hB.cell 0
  have b1 := hB.cell 1
  obtain ⟨D, dd, q1, q2, q3, q4, q5⟩ := hT1.out.lo.cell hd
  obtain ⟨ae, rfl, _, hel⟩ := (Reads.of_own q5).elem hcol
  go_enter Try.func43, Try.ntmps43
  go_wp2_with (go_at_call 38; refine (div_any 1 (L d col).v (by omega) (L d col).lt (fun e => hx (El.ext' e)) _).mono ?_; rintro e w2 ⟨rfl, hb⟩; have HB := Lib.hid hb; clear hb)
  have hT2 := Lib.hid (hT1.out.later HB.out)
  have hB2 := hB.below HB.out (by simp)
  have x0 : w2.cell? ⟨w.heap.size, 0, none⟩ = some (.slice (some ⟨g, 0, none⟩) r c) := hB2.cell 0
  have x1 : w2.cell? ⟨w.heap.size, 1, none⟩ = some (.slice (some ⟨g', 0, none⟩) r c') := hB2.cell 1
  obtain ⟨D1, d1, y1, y2, y3, y4, y5⟩ := hT2.out.lo.cell hd
  obtain ⟨D2, d2, z1, z2, z3, z4, z5⟩ := hT2.out.ro.cell hd
  have H1 := Lib.hid (Reads.of_own y5)
  have H2 := Lib.hid (Reads.of_own z5)
  clear hT1 hB b0 b1 q1 q2 q3 q4 q5 hel HB y5 z5
  obtain ⟨bx, hbx⟩ : ∃ bx, w.heap.size = bx := ⟨_, rfl⟩
  have HBX := Lib.hid hbx
  have hgbx : Hid (g < bx) := Lib.hid (by rw [← hbx]; obtain ⟨vs, ho, _⟩ := hT.out.lo; exact (ho.lt g rfl).2)
  have hgbx' : Hid (g' < bx) := Lib.hid (by rw [← hbx]; obtain ⟨vs, ho, _⟩ := hT.out.ro; exact (ho.lt g' rfl).2)
  rw [hbx] at x0 x1 ⊢
  clear hbx
  have iv1 : (inv (L d col)).v = gdiv 1 (L d col).v := inv_v _
  rw [← iv1]
  clear iv1 H1 H2
  have hT2s := Lib.hid hT2.out.since
  rw [HBX.out] at hB2
  have hB2 := Lib.hid hB2
  refine wp_region_late (S0 := fun w' => w'.cell? ⟨bx, 0, none⟩ = some (.slice (some ⟨g, 0, none⟩) r c) ∧ w'.cell? ⟨bx, 1, none⟩ = some (.slice (some ⟨g', 0, none⟩) r c')) (S := fun w' => w'.cell? ⟨bx, 0, none⟩ = some (.slice (some ⟨g, 0, none⟩) r c) ∧ w'.cell? ⟨bx, 1, none⟩ = some (.slice (some ⟨g', 0, none⟩) r c') ∧ w'.cell? ⟨g, d, none⟩ = some (.slice D1 n d1) ∧ w'.cell? ⟨g', d, none⟩ = some (.slice D2 n' d2)) 21 24 (by kernel_rfl) rfl ⟨⟨x0, x1⟩, x0, x1, y1, z1⟩ (fun wd hwd hHeld => ?_)
  have hTd := Lib.hid (show Two w0 w2 g c g' c' r n n' L R wd from by rw [hwd]; exact hT2s.out.later ((Below.refl _ _).drew))
  clear hwd
  have H1 := Lib.hid (row_reads hTd.out.lo hd hHeld.2.2.2.1)
  have H2 := Lib.hid (row_reads hTd.out.ro hd hHeld.2.2.2.2)
  refine wpAnyT_take 0 (v := ?_) rfl (by kernel_rfl) (fun _ _ _ h => h) (Or.inl ⟨by rfl, ?_⟩) hHeld ?_
  rotate_left
  · (intro wx hx; obtain ⟨_, _, _, _⟩ := hx; go_simp <;> with_reducible rfl)
  try simp only [Act.put, List.setIfInBounds_toArray, List.set_cons_zero, List.set_cons_succ]
  refine wpAnyT_take 1 (v := ?_) rfl (by kernel_rfl) (fun _ _ _ h => h) (Or.inl ⟨by rfl, ?_⟩) hHeld ?_
  rotate_left
  · (intro wx hx; obtain ⟨_, _, _, _⟩ := hx; go_simp <;> with_reducible rfl)
  try simp only [Act.put, List.setIfInBounds_toArray, List.set_cons_zero, List.set_cons_succ]
  refine wpAnyT_take 2 (v := ?_) rfl (by kernel_rfl) (fun _ _ _ h => h) (Or.inl ⟨by rfl, ?_⟩) hHeld ?_
  rotate_left
  · (intro wx hx; obtain ⟨_, _, _, _⟩ := hx; go_simp <;> with_reducible rfl)
  try simp only [Act.put, List.setIfInBounds_toArray, List.set_cons_zero, List.set_cons_succ]
  refine wpAnyT_stay 3 (v := ?_) rfl (by kernel_rfl) (fun _ _ _ h => h) (Or.inl ⟨by rfl, ?_⟩) ⟨hHeld.1, fun _ => hHeld.2⟩ ?_
  rotate_left
  · (intro wx hx; obtain ⟨_, _⟩ := hx; go_simp <;> with_reducible rfl)
  try simp only [Act.put, List.setIfInBounds_toArray, List.set_cons_zero, List.set_cons_succ]
  refine wpAnyT_stay 4 (v := ?_) rfl (by kernel_rfl) (fun _ _ _ h => h) (Or.inl ⟨by rfl, ?_⟩) ⟨hHeld.1, fun _ => hHeld.2⟩ ?_
  rotate_left
  · (intro wx hx; obtain ⟨_, _⟩ := hx; go_simp <;> with_reducible rfl)
  try simp only [Act.put, List.setIfInBounds_toArray, List.set_cons_zero, List.set_cons_succ]
  refine wpAnyT_stay 5 (v := ?_) rfl (by kernel_rfl) (fun _ _ _ h => h) (Or.inl ⟨by rfl, ?_⟩) ⟨hHeld.1, fun _ => hHeld.2⟩ ?_
  rotate_left
  · (intro wx hx; obtain ⟨_, _⟩ := hx; go_simp <;> with_reducible rfl)
  try simp only [Act.put, List.setIfInBounds_toArray, List.set_cons_zero, List.set_cons_succ]
  refine wpAnyT_take 6 (v := ?_) rfl (by kernel_rfl) (fun _ _ _ h => h) (Or.inl ⟨by rfl, ?_⟩) hHeld ?_
  rotate_left
  · (intro wx hx; obtain ⟨_, _, _, _⟩ := hx; go_simp <;> with_reducible rfl)
  try simp only [Act.put, List.setIfInBounds_toArray, List.set_cons_zero, List.set_cons_succ]
  refine wpAnyT_take 7 (v := ?_) rfl (by kernel_rfl) (fun _ _ _ h => h) (Or.inl ⟨by rfl, ?_⟩) hHeld ?_
  rotate_left
  · (intro wx hx; obtain ⟨_, _, _, _⟩ := hx; go_simp <;> with_reducible rfl)
  try simp only [Act.put, List.setIfInBounds_toArray, List.set_cons_zero, List.set_cons_succ]
  refine wpAnyT_take 8 (v := ?_) rfl (by kernel_rfl) (fun _ _ _ h => h) (Or.inl ⟨by rfl, ?_⟩) hHeld ?_
  rotate_left
  · (intro wx hx; obtain ⟨_, _, _, _⟩ := hx; go_simp <;> with_reducible rfl)
  try simp only [Act.put, List.setIfInBounds_toArray, List.set_cons_zero, List.set_cons_succ]
  refine wpAnyT_take 9 (v := ?_) rfl (by kernel_rfl) (fun _ _ _ h => h) (Or.inl ⟨by rfl, ?_⟩) hHeld ?_
  rotate_left
  · (intro wx hx; obtain ⟨_, _, _, _⟩ := hx; go_simp <;> with_reducible rfl)
  try simp only [Act.put, List.setIfInBounds_toArray, List.set_cons_zero, List.set_cons_succ]
  refine wpAnyT_take 10 (v := ?_) rfl (by kernel_rfl) (fun _ _ _ h => h) (Or.inl ⟨by rfl, ?_⟩) hHeld ?_
  rotate_left
  · (intro wx hx; obtain ⟨_, _, _, _⟩ := hx; go_simp <;> with_reducible rfl)
  try simp only [Act.put, List.setIfInBounds_toArray, List.set_cons_zero, List.set_cons_succ]
  refine wpAnyT_take 11 (v := ?_) rfl (by kernel_rfl) (fun _ _ _ h => h) (Or.inl ⟨by rfl, ?_⟩) hHeld ?_
  rotate_left
  · (intro wx hx; obtain ⟨_, _, _, _⟩ := hx; go_simp <;> with_reducible rfl)
  try simp only [Act.put, List.setIfInBounds_toArray, List.set_cons_zero, List.set_cons_succ]
  refine wpAnyT_stay 13 (v := ?_) rfl (by kernel_rfl) (fun _ _ _ h => h) (Or.inl ⟨by rfl, ?_⟩) ⟨hHeld.1, fun _ => hHeld.2⟩ ?_
  rotate_left
  · (intro wx hx; obtain ⟨_, _⟩ := hx; go_simp <;> with_reducible rfl)
  try simp only [Act.put, List.setIfInBounds_toArray, List.set_cons_zero, List.set_cons_succ]
  refine wpAnyT_stay 14 (v := ?_) rfl (by kernel_rfl) (fun _ _ _ h => h) (Or.inl ⟨by rfl, ?_⟩) ⟨hHeld.1, fun _ => hHeld.2⟩ ?_
  rotate_left
  · (intro wx hx; obtain ⟨_, _⟩ := hx; go_simp <;> with_reducible rfl)
  try simp only [Act.put, List.setIfInBounds_toArray, List.set_cons_zero, List.set_cons_succ]
  refine wpAnyT_stay 15 (v := ?_) rfl (by kernel_rfl) (fun _ _ _ h => h) (Or.inl ⟨by rfl, ?_⟩) ⟨hHeld.1, fun _ => hHeld.2⟩ ?_
  rotate_left
  · (intro wx hx; obtain ⟨_, _⟩ := hx; go_simp <;> with_reducible rfl)
  try simp only [Act.put, List.setIfInBounds_toArray, List.set_cons_zero, List.set_cons_succ]
  refine wpAnyT_take 16 (v := ?_) rfl (by kernel_rfl) (fun _ _ _ h => h) (Or.inl ⟨by rfl, ?_⟩) hHeld ?_
  rotate_left
  · (intro wx hx; obtain ⟨_, _, _, _⟩ := hx; go_simp <;> with_reducible rfl)
  try simp only [Act.put, List.setIfInBounds_toArray, List.set_cons_zero, List.set_cons_succ]
  refine wpAnyT_take 17 (v := ?_) rfl (by kernel_rfl) (fun _ _ _ h => h) (Or.inl ⟨by rfl, ?_⟩) hHeld ?_
  rotate_left
  · (intro wx hx; obtain ⟨_, _, _, _⟩ := hx; go_simp <;> with_reducible rfl)
  try simp only [Act.put, List.setIfInBounds_toArray, List.set_cons_zero, List.set_cons_succ]
  refine wpAnyT_stay 18 (v := ?_) rfl (by kernel_rfl) (fun _ _ _ h => h) (Or.inl ⟨by rfl, ?_⟩) ⟨hHeld.1, fun _ => hHeld.2⟩ ?_
  rotate_left
  · (intro wx hx; obtain ⟨_, _⟩ := hx; go_simp <;> with_reducible rfl)
  try simp only [Act.put, List.setIfInBounds_toArray, List.set_cons_zero, List.set_cons_succ]
  refine wpAnyT_one 12 rfl (by kernel_rfl) (fun K hK => ?_)
  go_simp
  (go_at_call 49; refine (scaled_any _ _ _ _ (inv (L d col)) _ H1 (by omega)).mono ?_; rintro e w3 ⟨A3, k3, rfl, p1, p2, ho3, hb3⟩; have HO3 := Lib.hid ho3; have HB3 := Lib.hid hb3; clear ho3 hb3)
  refine hK.out _ _ ?_ (fun hHeld12 => ?_)
  · exact ⟨⟨cell_later HB3.out hHeld.1.1, cell_later HB3.out hHeld.1.2⟩, cell_later HB3.out hHeld.1.1, cell_later HB3.out hHeld.1.2, cell_later HB3.out hHeld.2.2.2.1, cell_later HB3.out hHeld.2.2.2.2⟩
  clear hK K
  try simp only [Act.put, List.setIfInBounds_toArray, List.set_cons_zero, List.set_cons_succ]
  refine wpAnyT_one 19 rfl (by kernel_rfl) (fun K hK => ?_)
  go_simp
  (go_at_call 49; refine (scaled_any _ _ _ _ (inv (L d col)) _ (Lib.hid (H2.out.later HB3.out)) (by omega)).mono ?_; rintro e w4 ⟨A4, k4, rfl, p3, p4, ho4, hb4⟩; have HO4 := Lib.hid ho4; have HB4 := Lib.hid hb4; clear ho4 hb4)
  refine hK.out _ _ ?_ (fun hHeld19 => ?_)
  · exact ⟨⟨cell_later HB4.out hHeld12.1.1, cell_later HB4.out hHeld12.1.2⟩, cell_later HB4.out hHeld12.1.1, cell_later HB4.out hHeld12.1.2, cell_later HB4.out hHeld12.2.2.2.1, cell_later HB4.out hHeld12.2.2.2.2⟩
  clear hK K
  try simp only [Act.put, List.setIfInBounds_toArray, List.set_cons_zero, List.set_cons_succ]
  have hT4 := Lib.hid ((hTd.out.later HB3.out).later HB4.out)
  have hT5 := Lib.hid (hT4.out.putL hd (f := fun j => L d j * inv (L d col)) (K := piv2 d (L d col) L) (own_base (own_below HO3.out HB4.out) hTd.out.bel.size) (fun q => piv2_row d _ L q))
  have hT6 := Lib.hid (hT5.out.putR hd (f := fun j => R d j * inv (L d col)) (K := piv2 d (L d col) R) (own_base (own_far (p := ⟨g, d, none⟩) HO4.out (row_far hT4.out.lo HO4.out) _) (Nat.le_trans hTd.out.bel.size HB3.out.size)) (fun q => piv2_row d _ R q))
  have hB5 := hT5.out.oth _ _ _ (by decide) hB2.out
  have hB6 := hT6.out.oth _ _ _ (by decide) hB2.out
  have x07 := hB5.cell 0
  have x17 := hB5.cell 1
  have x08 := hB6.cell 0
  have x18 := hB6.cell 1
  have hB6 := Lib.hid hB6
  clear hB5
  obtain ⟨D4, d4, c4, f4, -⟩ := hT4.out.lo.cell hd
  obtain ⟨D5, d5, c5, f5, -⟩ := hT5.out.ro.cell hd
  refine wpAnyT_take 20 (v := ?_) rfl (by kernel_rfl) (fun _ _ _ h => h) (Or.inl ⟨by rfl, ?_⟩) hHeld19 ?_
  rotate_left
  · (intro wx hx; obtain ⟨_, _, _, _⟩ := hx; go_simp <;> with_reducible rfl)
  try simp only [Act.put, List.setIfInBounds_toArray, List.set_cons_zero, List.set_cons_succ]
  refine wpAnyT_last 21 rfl (by kernel_rfl) (by decide) (fun K hK => ?_)
  go_simp
  refine hK.out _ _ ?_ (fun hHeld21 => ?_)
  · exact ⟨x07, x17⟩
  clear hK K
  try simp only [Act.put, List.setIfInBounds_toArray, List.set_cons_zero, List.set_cons_succ]
  refine wpAnyT_stay 22 (v := ?_) rfl (by kernel_rfl) (fun _ _ _ h => h) (Or.inl ⟨by rfl, ?_⟩) ⟨hHeld21, fun h => absurd h (by decide)⟩ ?_
  rotate_left
  · (intro wx hx; obtain ⟨_, _⟩ := hx; go_simp <;> with_reducible rfl)
  try simp only [Act.put, List.setIfInBounds_toArray, List.set_cons_zero, List.set_cons_succ]
  refine wpAnyT_last 23 rfl (by kernel_rfl) (by decide) (fun K hK => ?_)
  go_simp
  refine hK.out _ _ ?_ (fun hHeld23 => ?_)
  · exact ⟨x08, x18⟩
  clear hK K
  try simp only [Act.put, List.setIfInBounds_toArray, List.set_cons_zero, List.set_cons_succ]
  refine wpAnyT_done (by kernel_rfl) ?_ _
  clear hHeld hHeld12 hHeld19 hHeld21 hHeld23 x07 x17 hTd H1 H2 HO3 HB3 HO4 HB4 hT4 hT5 c4 f4 c5 f5 x0 x1 y1 z1 y2 y3 y4 z2 z3 z4
  obtain ⟨w5, hw5⟩ : ∃ w5, (w4.setCell ⟨g, d, none⟩ (.slice A3 n k3)).setCell ⟨g', d, none⟩ (.slice A4 n' k4) = w5 := ⟨_, rfl⟩
  rw [hw5] at hT6 hB6 x08 x18 ⊢
  clear hw5
  obtain ⟨N, hN⟩ : ∃ N, piv2 d (L d col) L = N := ⟨_, rfl⟩
  obtain ⟨N', hN'⟩ : ∃ N', piv2 d (L d col) R = N' := ⟨_, rfl⟩
  rw [hN, hN'] at hT6
  have HN := Lib.hid hN
  have HN' := Lib.hid hN'
  clear hN hN'
  obtain ⟨P, hPd⟩ : ∃ P, piv3 d (fun q => N q col) N = P := ⟨_, rfl⟩
  obtain ⟨P', hPd'⟩ : ∃ P', piv3 d (fun q => N q col) N' = P' := ⟨_, rfl⟩
  have HP := Lib.hid hPd
  have HP' := Lib.hid hPd'
  have own : Hid (P d = N d ∧ P' d = N' d) := Lib.hid (by rw [← hPd, ← hPd']; exact ⟨piv3_own _ _ _, piv3_own _ _ _⟩)
  have non : Hid (∀ k, N k col = 0 → P k = N k ∧ P' k = N' k) := Lib.hid (by rw [← hPd, ← hPd']; exact fun k h => ⟨piv3_none N h, piv3_none N' h⟩)
  have row : Hid (∀ k, k ≠ d → (P k = fun j => N k j + N d j * N k col) ∧ (P' k = fun j => N' k j + N' d j * N k col)) := Lib.hid (by rw [← hPd, ← hPd']; exact fun k h => ⟨piv3_row _ N h, piv3_row _ N' h⟩)
  clear hPd hPd'
  rw [← part_zero P N, ← part_zero P' N'] at hT6
  have hBw := hB2.out.lt
  go_wp2
  clear hB6 x08 x18
  go_loopw [8, 9, 10, 48] (fun _ _ _ vi wr => ∃ k : Nat, k ≤ r ∧ vi = .int .i64 k ∧ Hid (Two w0 w2 g c g' c' r n n' (part k P N) (part k P' N') wr)) (fun _ _ _ vi _ => r - (intOf vi).toNat)
  case atStart => exact ⟨0, by omega, rfl, hT6⟩
  case round =>
    obtain ⟨k, hk, rfl, hTk⟩ := hrel
    clear hT6
    by_cases hlt : k < r
    · obtain ⟨Dk, dk, u1, -, u3, u4, u5⟩ := hTk.out.lo.cell hlt
      rw [part_at] at u5
      have U5 := Lib.hid (Reads.of_own u5)
      clear u5
      obtain ⟨ak, rfl, _, hek⟩ := U5.out.elem hcol
      have hB7 := hTk.out.oth _ _ _ (by decide) hB2.out
      have y0 := hB7.cell 0
      have y1 := hB7.cell 1
      clear hB7
      unfold maxLen at u4
      by_cases hkd : k = d
      · subst hkd
        have hT9 : Hid (Two w0 w2 g c g' c' r n n' (part (k + 1) P N) (part (k + 1) P' N') wr) := Lib.hid (by rw [part_same own.out.1, part_same own.out.2]; exact hTk.out)
        clear hTk
        go_wp2
        exact ⟨⟨k + 1, by omega, by go_num, hT9⟩, by simp [intOf]; omega⟩
      have e1 : ((k : Int) == (d : Int)) = false := by simp; omega
      have e2 : decide ((k : Int) = (d : Int)) = false := decide_eq_false (by omega)
      by_cases hz : (N k col).v = 0
      · have hz0 : N k col = 0 := El.ext' hz
        have hT9 : Hid (Two w0 w2 g c g' c' r n n' (part (k + 1) P N) (part (k + 1) P' N') wr) := Lib.hid (by rw [part_same (non.out k hz0).1, part_same (non.out k hz0).2]; exact hTk.out)
        clear hTk
        rw [hz] at hek
        clear hz hz0
        go_wp2
        exact ⟨⟨k + 1, by omega, by go_num, hT9⟩, by simp [intOf]; omega⟩
      · have e3 : (((N k col).v : Int) == 0) = false := by simp; omega
        have e4 : decide (((N k col).v : Int) = 0) = false := decide_eq_false (by omega)
        have e5 : ((k : Int) != (d : Int)) = true := by simp; omega
        have e6 : (((N k col).v : Int) != 0) = true := by simp; omega
        have hP : Hid (P k = fun j => N k j + N d j * N k col) := Lib.hid (row.out k hkd).1
        have hP' : Hid (P' k = fun j => N' k j + N' d j * N k col) := Lib.hid (row.out k hkd).2
        clear hz
        go_wp2
        obtain ⟨Dd, ddd, v1, v2, -⟩ := hTk.out.lo.cell hd
        clear hek
        refine wp_region_late (S0 := fun w' => w'.cell? ⟨bx, 0, none⟩ = some (.slice (some ⟨g, 0, none⟩) r c) ∧ w'.cell? ⟨bx, 1, none⟩ = some (.slice (some ⟨g', 0, none⟩) r c')) (S := fun w' => w'.cell? ⟨bx, 0, none⟩ = some (.slice (some ⟨g, 0, none⟩) r c) ∧ w'.cell? ⟨bx, 1, none⟩ = some (.slice (some ⟨g', 0, none⟩) r c') ∧ w'.cell? ⟨g, k, none⟩ = some (.slice (some ak) n dk) ∧ w'.cell? ⟨g, d, none⟩ = some (.slice Dd n ddd)) 15 16 (by kernel_rfl) rfl ⟨⟨y0, y1⟩, y0, y1, u1, v1⟩ (fun wd hwd hH8 => ?_)
        have hTd8 := Lib.hid (show Two w0 w2 g c g' c' r n n' (part k P N) (part k P' N') wd from by rw [hwd]; exact hTk.out.later ((Below.refl _ _).drew))
        clear hwd hTk y0 y1 u1 v1 v2 U5
        have h8a := Lib.hid (by have := row_reads hTd8.out.lo hlt hH8.2.2.2.1; rwa [part_at] at this)
        have h8b := Lib.hid (by have := row_reads hTd8.out.lo hd hH8.2.2.2.2; rwa [part_own own.out.1] at this)
        refine wpAnyT_stay 0 (v := ?_) rfl (by kernel_rfl) (fun _ _ _ h => h) (Or.inl ⟨by rfl, ?_⟩) ⟨hH8.1, fun _ => hH8.2⟩ ?_
        rotate_left
        · (intro wx hx; obtain ⟨_, _⟩ := hx; go_simp <;> with_reducible rfl)
        try simp only [Act.put, List.setIfInBounds_toArray, List.set_cons_zero, List.set_cons_succ]
        refine wpAnyT_stay 1 (v := ?_) rfl (by kernel_rfl) (fun _ _ _ h => h) (Or.inl ⟨by rfl, ?_⟩) ⟨hH8.1, fun _ => hH8.2⟩ ?_
        rotate_left
        · (intro wx hx; obtain ⟨_, _⟩ := hx; go_simp <;> with_reducible rfl)
        try simp only [Act.put, List.setIfInBounds_toArray, List.set_cons_zero, List.set_cons_succ]
        refine wpAnyT_stay 2 (v := ?_) rfl (by kernel_rfl) (fun _ _ _ h => h) (Or.inl ⟨by rfl, ?_⟩) ⟨hH8.1, fun _ => hH8.2⟩ ?_
        rotate_left
        · (intro wx hx; obtain ⟨_, _⟩ := hx; go_simp <;> with_reducible rfl)
        try simp only [Act.put, List.setIfInBounds_toArray, List.set_cons_zero, List.set_cons_succ]
        refine wpAnyT_stay 3 (v := ?_) rfl (by kernel_rfl) (fun _ _ _ h => h) (Or.inl ⟨by rfl, ?_⟩) ⟨hH8.1, fun _ => hH8.2⟩ ?_
        rotate_left
        · (intro wx hx; obtain ⟨_, _⟩ := hx; go_simp <;> with_reducible rfl)
        try simp only [Act.put, List.setIfInBounds_toArray, List.set_cons_zero, List.set_cons_succ]
        refine wpAnyT_stay 4 (v := ?_) rfl (by kernel_rfl) (fun _ _ _ h => h) (Or.inl ⟨by rfl, ?_⟩) ⟨hH8.1, fun _ => hH8.2⟩ ?_
        rotate_left
        · (intro wx hx; obtain ⟨_, _⟩ := hx; go_simp <;> with_reducible rfl)
        try simp only [Act.put, List.setIfInBounds_toArray, List.set_cons_zero, List.set_cons_succ]
        refine wpAnyT_stay 5 (v := ?_) rfl (by kernel_rfl) (fun _ _ _ h => h) (Or.inl ⟨by rfl, ?_⟩) ⟨hH8.1, fun _ => hH8.2⟩ ?_
        rotate_left
        · (intro wx hx; obtain ⟨_, _⟩ := hx; go_simp <;> with_reducible rfl)
        try simp only [Act.put, List.setIfInBounds_toArray, List.set_cons_zero, List.set_cons_succ]
        refine wpAnyT_stay 6 (v := ?_) rfl (by kernel_rfl) (fun _ _ _ h => h) (Or.inl ⟨by rfl, ?_⟩) ⟨hH8.1, fun _ => hH8.2⟩ ?_
        rotate_left
        · (intro wx hx; obtain ⟨_, _⟩ := hx; go_simp <;> with_reducible rfl)
        try simp only [Act.put, List.setIfInBounds_toArray, List.set_cons_zero, List.set_cons_succ]
        refine wpAnyT_take 7 (v := ?_) rfl (by kernel_rfl) (fun _ _ _ h => h) (Or.inl ⟨by rfl, ?_⟩) hH8 ?_
        rotate_left
        · (intro wx hx; obtain ⟨_, _, _, _⟩ := hx; go_simp <;> with_reducible rfl)
        try simp only [Act.put, List.setIfInBounds_toArray, List.set_cons_zero, List.set_cons_succ]
        refine wpAnyT_take 8 (v := ?_) rfl (by kernel_rfl) (fun _ _ _ h => h) (Or.inl ⟨by rfl, ?_⟩) hH8 ?_
        rotate_left
        · (intro wx hx; obtain ⟨_, _, _, _⟩ := hx; go_simp <;> with_reducible rfl)
        try simp only [Act.put, List.setIfInBounds_toArray, List.set_cons_zero, List.set_cons_succ]
        refine wpAnyT_stay 9 (v := ?_) rfl (by kernel_rfl) (fun _ _ _ h => h) (Or.inl ⟨by rfl, ?_⟩) ⟨hH8.1, fun _ => hH8.2⟩ ?_
        rotate_left
        · (intro wx hx; obtain ⟨_, _⟩ := hx; go_simp <;> with_reducible rfl)
        try simp only [Act.put, List.setIfInBounds_toArray, List.set_cons_zero, List.set_cons_succ]
        refine wpAnyT_one 10 rfl (by kernel_rfl) (fun K hK => ?_)
        go_simp
        (go_at_call 44; refine (mix_el _ _ _ _ n _ _ (N k col) _ h8a h8b (by omega)).mono ?_; rintro e w6 ⟨A6, k6, rfl, p5, p6, ho6, hb6⟩; have HO6 := Lib.hid ho6; have HB6 := Lib.hid hb6; clear ho6 hb6)
        refine hK.out _ _ ?_ (fun hH810 => ?_)
        · exact ⟨⟨cell_later HB6.out hH8.1.1, cell_later HB6.out hH8.1.2⟩, cell_later HB6.out hH8.1.1, cell_later HB6.out hH8.1.2, cell_later HB6.out hH8.2.2.2.1, cell_later HB6.out hH8.2.2.2.2⟩
        clear hK K
        try simp only [Act.put, List.setIfInBounds_toArray, List.set_cons_zero, List.set_cons_succ]
        have hT7 := Lib.hid (hTd8.out.later HB6.out)
        have hT8 := Lib.hid (hT7.out.putL hlt (f := fun j => N k j + N d j * N k col) (K := part (k + 1) P N) (own_base HO6.out hTd8.out.bel.size) (fun q => by rw [part_succ, hP.out]))
        have hB8 := hT8.out.oth _ _ _ (by decide) hB2.out
        have x09 := hB8.cell 0
        have x19 := hB8.cell 1
        have hB8 := Lib.hid hB8
        obtain ⟨D8, d8, c8, f8, -⟩ := hT7.out.lo.cell hlt
        refine wpAnyT_stay 11 (v := ?_) rfl (by kernel_rfl) (fun _ _ _ h => h) (Or.inl ⟨by rfl, ?_⟩) ⟨hH810.1, fun _ => hH810.2⟩ ?_
        rotate_left
        · (intro wx hx; obtain ⟨_, _⟩ := hx; go_simp <;> with_reducible rfl)
        try simp only [Act.put, List.setIfInBounds_toArray, List.set_cons_zero, List.set_cons_succ]
        refine wpAnyT_stay 12 (v := ?_) rfl (by kernel_rfl) (fun _ _ _ h => h) (Or.inl ⟨by rfl, ?_⟩) ⟨hH810.1, fun _ => hH810.2⟩ ?_
        rotate_left
        · (intro wx hx; obtain ⟨_, _⟩ := hx; go_simp <;> with_reducible rfl)
        try simp only [Act.put, List.setIfInBounds_toArray, List.set_cons_zero, List.set_cons_succ]
        refine wpAnyT_stay 13 (v := ?_) rfl (by kernel_rfl) (fun _ _ _ h => h) (Or.inl ⟨by rfl, ?_⟩) ⟨hH810.1, fun _ => hH810.2⟩ ?_
        rotate_left
        · (intro wx hx; obtain ⟨_, _⟩ := hx; go_simp <;> with_reducible rfl)
        try simp only [Act.put, List.setIfInBounds_toArray, List.set_cons_zero, List.set_cons_succ]
        refine wpAnyT_stay 14 (v := ?_) rfl (by kernel_rfl) (fun _ _ _ h => h) (Or.inl ⟨by rfl, ?_⟩) ⟨hH810.1, fun _ => hH810.2⟩ ?_
        rotate_left
        · (intro wx hx; obtain ⟨_, _⟩ := hx; go_simp <;> with_reducible rfl)
        try simp only [Act.put, List.setIfInBounds_toArray, List.set_cons_zero, List.set_cons_succ]
        refine wpAnyT_last 15 rfl (by kernel_rfl) (by decide) (fun K hK => ?_)
        go_simp
        refine hK.out _ _ ?_ (fun hH815 => ?_)
        · exact ⟨x09, x19⟩
        clear hK K
        try simp only [Act.put, List.setIfInBounds_toArray, List.set_cons_zero, List.set_cons_succ]
        refine wpAnyT_done (by kernel_rfl) ?_ _
        clear hTd8 h8a h8b HO6 HB6 hH8 hH810 hH815 hT7 c8 f8 x09 x19
        obtain ⟨w7, hw7⟩ : ∃ w7, w6.setCell ⟨g, k, none⟩ (.slice A6 n k6) = w7 := ⟨_, rfl⟩
        rw [hw7] at hT8 hB8 ⊢
        clear hw7
        go_wp2
        have y0 := hB8.out.cell 0
        have y1 := hB8.out.cell 1
        obtain ⟨Dr, dr, u1, -⟩ := hT8.out.ro.cell hlt
        obtain ⟨Dd', ddd', v1, -⟩ := hT8.out.ro.cell hd
        refine wp_region_late (S0 := fun w' => w'.cell? ⟨bx, 0, none⟩ = some (.slice (some ⟨g, 0, none⟩) r c) ∧ w'.cell? ⟨bx, 1, none⟩ = some (.slice (some ⟨g', 0, none⟩) r c')) (S := fun w' => w'.cell? ⟨bx, 0, none⟩ = some (.slice (some ⟨g, 0, none⟩) r c) ∧ w'.cell? ⟨bx, 1, none⟩ = some (.slice (some ⟨g', 0, none⟩) r c') ∧ w'.cell? ⟨g', k, none⟩ = some (.slice Dr n' dr) ∧ w'.cell? ⟨g', d, none⟩ = some (.slice Dd' n' ddd')) 19 20 (by kernel_rfl) rfl ⟨⟨y0, y1⟩, y0, y1, u1, v1⟩ (fun wd hwd hH9 => ?_)
        have hTd9 := Lib.hid (show Two w0 w2 g c g' c' r n n' (part (k + 1) P N) (part k P' N') wd from by rw [hwd]; exact hT8.out.later ((Below.refl _ _).drew))
        clear hwd hT8 y0 y1 u1 v1 hB8
        have h9a := Lib.hid (by have := row_reads hTd9.out.ro hlt hH9.2.2.2.1; rwa [part_at] at this)
        have h9b := Lib.hid (by have := row_reads hTd9.out.ro hd hH9.2.2.2.2; rwa [part_own own.out.2] at this)
        refine wpAnyT_stay 0 (v := ?_) rfl (by kernel_rfl) (fun _ _ _ h => h) (Or.inl ⟨by rfl, ?_⟩) ⟨hH9.1, fun _ => hH9.2⟩ ?_
        rotate_left
        · (intro wx hx; obtain ⟨_, _⟩ := hx; go_simp <;> with_reducible rfl)
        try simp only [Act.put, List.setIfInBounds_toArray, List.set_cons_zero, List.set_cons_succ]
        refine wpAnyT_stay 1 (v := ?_) rfl (by kernel_rfl) (fun _ _ _ h => h) (Or.inl ⟨by rfl, ?_⟩) ⟨hH9.1, fun _ => hH9.2⟩ ?_
        rotate_left
        · (intro wx hx; obtain ⟨_, _⟩ := hx; go_simp <;> with_reducible rfl)
        try simp only [Act.put, List.setIfInBounds_toArray, List.set_cons_zero, List.set_cons_succ]
        refine wpAnyT_stay 2 (v := ?_) rfl (by kernel_rfl) (fun _ _ _ h => h) (Or.inl ⟨by rfl, ?_⟩) ⟨hH9.1, fun _ => hH9.2⟩ ?_
        rotate_left
        · (intro wx hx; obtain ⟨_, _⟩ := hx; go_simp <;> with_reducible rfl)
        try simp only [Act.put, List.setIfInBounds_toArray, List.set_cons_zero, List.set_cons_succ]
        refine wpAnyT_stay 3 (v := ?_) rfl (by kernel_rfl) (fun _ _ _ h => h) (Or.inl ⟨by rfl, ?_⟩) ⟨hH9.1, fun _ => hH9.2⟩ ?_
        rotate_left
        · (intro wx hx; obtain ⟨_, _⟩ := hx; go_simp <;> with_reducible rfl)
        try simp only [Act.put, List.setIfInBounds_toArray, List.set_cons_zero, List.set_cons_succ]
        refine wpAnyT_stay 4 (v := ?_) rfl (by kernel_rfl) (fun _ _ _ h => h) (Or.inl ⟨by rfl, ?_⟩) ⟨hH9.1, fun _ => hH9.2⟩ ?_
        rotate_left
        · (intro wx hx; obtain ⟨_, _⟩ := hx; go_simp <;> with_reducible rfl)
        try simp only [Act.put, List.setIfInBounds_toArray, List.set_cons_zero, List.set_cons_succ]
        refine wpAnyT_stay 5 (v := ?_) rfl (by kernel_rfl) (fun _ _ _ h => h) (Or.inl ⟨by rfl, ?_⟩) ⟨hH9.1, fun _ => hH9.2⟩ ?_
        rotate_left
        · (intro wx hx; obtain ⟨_, _⟩ := hx; go_simp <;> with_reducible rfl)
        try simp only [Act.put, List.setIfInBounds_toArray, List.set_cons_zero, List.set_cons_succ]
        refine wpAnyT_take 6 (v := ?_) rfl (by kernel_rfl) (fun _ _ _ h => h) (Or.inl ⟨by rfl, ?_⟩) hH9 ?_
        rotate_left
        · (intro wx hx; obtain ⟨_, _, _, _⟩ := hx; go_simp <;> with_reducible rfl)
        try simp only [Act.put, List.setIfInBounds_toArray, List.set_cons_zero, List.set_cons_succ]
        refine wpAnyT_take 7 (v := ?_) rfl (by kernel_rfl) (fun _ _ _ h => h) (Or.inl ⟨by rfl, ?_⟩) hH9 ?_
        rotate_left
        · (intro wx hx; obtain ⟨_, _, _, _⟩ := hx; go_simp <;> with_reducible rfl)
        try simp only [Act.put, List.setIfInBounds_toArray, List.set_cons_zero, List.set_cons_succ]
        refine wpAnyT_stay 8 (v := ?_) rfl (by kernel_rfl) (fun _ _ _ h => h) (Or.inl ⟨by rfl, ?_⟩) ⟨hH9.1, fun _ => hH9.2⟩ ?_
        rotate_left
        · (intro wx hx; obtain ⟨_, _⟩ := hx; go_simp <;> with_reducible rfl)
        try simp only [Act.put, List.setIfInBounds_toArray, List.set_cons_zero, List.set_cons_succ]
        refine wpAnyT_stay 9 (v := ?_) rfl (by kernel_rfl) (fun _ _ _ h => h) (Or.inl ⟨by rfl, ?_⟩) ⟨hH9.1, fun _ => hH9.2⟩ ?_
        rotate_left
        · (intro wx hx; obtain ⟨_, _⟩ := hx; go_simp <;> with_reducible rfl)
        try simp only [Act.put, List.setIfInBounds_toArray, List.set_cons_zero, List.set_cons_succ]
        refine wpAnyT_stay 10 (v := ?_) rfl (by kernel_rfl) (fun _ _ _ h => h) (Or.inl ⟨by rfl, ?_⟩) ⟨hH9.1, fun _ => hH9.2⟩ ?_
        rotate_left
        · (intro wx hx; obtain ⟨_, _⟩ := hx; go_simp <;> with_reducible rfl)
        try simp only [Act.put, List.setIfInBounds_toArray, List.set_cons_zero, List.set_cons_succ]
        refine wpAnyT_take 11 (v := ?_) rfl (by kernel_rfl) (fun _ _ _ h => h) (Or.inl ⟨by rfl, ?_⟩) hH9 ?_
        rotate_left
        · (intro wx hx; obtain ⟨_, _, _, _⟩ := hx; go_simp <;> with_reducible rfl)
        try simp only [Act.put, List.setIfInBounds_toArray, List.set_cons_zero, List.set_cons_succ]
        refine wpAnyT_take 12 (v := ?_) rfl (by kernel_rfl) (fun _ _ _ h => h) (Or.inl ⟨by rfl, ?_⟩) hH9 ?_
        rotate_left
        · (intro wx hx; obtain ⟨_, _, _, _⟩ := hx; go_simp <;> with_reducible rfl)
        try simp only [Act.put, List.setIfInBounds_toArray, List.set_cons_zero, List.set_cons_succ]
        refine wpAnyT_stay 13 (v := ?_) rfl (by kernel_rfl) (fun _ _ _ h => h) (Or.inl ⟨by rfl, ?_⟩) ⟨hH9.1, fun _ => hH9.2⟩ ?_
        rotate_left
        · (intro wx hx; obtain ⟨_, _⟩ := hx; go_simp <;> with_reducible rfl)
        try simp only [Act.put, List.setIfInBounds_toArray, List.set_cons_zero, List.set_cons_succ]
        refine wpAnyT_one 14 rfl (by kernel_rfl) (fun K hK => ?_)
        go_simp
        (go_at_call 44; refine (mix_el _ _ _ _ n' _ _ (N k col) _ h9a h9b (by omega)).mono ?_; rintro e w9 ⟨A9, k9, rfl, p8, p9, ho9, hb9⟩; have HO9 := Lib.hid ho9; have HB9 := Lib.hid hb9; clear ho9 hb9)
        refine hK.out _ _ ?_ (fun hH914 => ?_)
        · exact ⟨⟨cell_later HB9.out hH9.1.1, cell_later HB9.out hH9.1.2⟩, cell_later HB9.out hH9.1.1, cell_later HB9.out hH9.1.2, cell_later HB9.out hH9.2.2.2.1, cell_later HB9.out hH9.2.2.2.2⟩
        clear hK K
        try simp only [Act.put, List.setIfInBounds_toArray, List.set_cons_zero, List.set_cons_succ]
        have hT9 := Lib.hid (hTd9.out.later HB9.out)
        have hT10 := Lib.hid (hT9.out.putR hlt (f := fun j => N' k j + N' d j * N k col) (K := part (k + 1) P' N') (own_base HO9.out hTd9.out.bel.size) (fun q => by rw [part_succ, hP'.out]))
        have hB10 := hT10.out.oth _ _ _ (by decide) hB2.out
        have x010 := hB10.cell 0
        have x110 := hB10.cell 1
        clear hB10
        obtain ⟨D10, d10, c10, f10, -⟩ := hT9.out.ro.cell hlt
        refine wpAnyT_stay 15 (v := ?_) rfl (by kernel_rfl) (fun _ _ _ h => h) (Or.inl ⟨by rfl, ?_⟩) ⟨hH914.1, fun _ => hH914.2⟩ ?_
        rotate_left
        · (intro wx hx; obtain ⟨_, _⟩ := hx; go_simp <;> with_reducible rfl)
        try simp only [Act.put, List.setIfInBounds_toArray, List.set_cons_zero, List.set_cons_succ]
        refine wpAnyT_stay 16 (v := ?_) rfl (by kernel_rfl) (fun _ _ _ h => h) (Or.inl ⟨by rfl, ?_⟩) ⟨hH914.1, fun _ => hH914.2⟩ ?_
        rotate_left
        · (intro wx hx; obtain ⟨_, _⟩ := hx; go_simp <;> with_reducible rfl)
        try simp only [Act.put, List.setIfInBounds_toArray, List.set_cons_zero, List.set_cons_succ]
        refine wpAnyT_stay 17 (v := ?_) rfl (by kernel_rfl) (fun _ _ _ h => h) (Or.inl ⟨by rfl, ?_⟩) ⟨hH914.1, fun _ => hH914.2⟩ ?_
        rotate_left
        · (intro wx hx; obtain ⟨_, _⟩ := hx; go_simp <;> with_reducible rfl)
        try simp only [Act.put, List.setIfInBounds_toArray, List.set_cons_zero, List.set_cons_succ]
        refine wpAnyT_stay 18 (v := ?_) rfl (by kernel_rfl) (fun _ _ _ h => h) (Or.inl ⟨by rfl, ?_⟩) ⟨hH914.1, fun _ => hH914.2⟩ ?_
        rotate_left
        · (intro wx hx; obtain ⟨_, _⟩ := hx; go_simp <;> with_reducible rfl)
        try simp only [Act.put, List.setIfInBounds_toArray, List.set_cons_zero, List.set_cons_succ]
        refine wpAnyT_last 19 rfl (by kernel_rfl) (by decide) (fun K hK => ?_)
        go_simp
        refine hK.out _ _ ?_ (fun hH919 => ?_)
        · exact ⟨x010, x110⟩
        clear hK K
        try simp only [Act.put, List.setIfInBounds_toArray, List.set_cons_zero, List.set_cons_succ]
        refine wpAnyT_done (by kernel_rfl) ?_ _
        clear hTd9 h9a h9b HO9 HB9 hH9 hH914 hH919 hT9 c10 f10 x010 x110
        obtain ⟨w10, hw10⟩ : ∃ w10, w9.setCell ⟨g', k, none⟩ (.slice A9 n' k9) = w10 := ⟨_, rfl⟩
        rw [hw10] at hT10 ⊢
        clear hw10
        go_wp2
        exact ⟨⟨k + 1, by omega, by go_num, hT10⟩, by simp [intOf]; omega⟩
    · obtain rfl : k = r := by omega
      have hEnd : Hid (Two w0 w g c g' c' k n n' (piv3 d (fun q => piv2 d (L d col) L q col) (piv2 d (L d col) L)) (piv3 d (fun q => piv2 d (L d col) L q col) (piv2 d (L d col) R)) wr) := Lib.hid (by
        rw [HN.out, HN'.out, HP.out, HP'.out]
        have h1 := hTk.out
        exact ⟨two_congr (fun q hq => by simp [part, hq]) h1.lo, two_congr (fun q hq => by simp [part, hq]) h1.ro, h1.ne, h1.bel, hT2.out.oth.trans h1.oth⟩)
      clear hTk
      go_wp2
      go_end0
      exact ⟨rfl, hEnd.out⟩
end Go.Proofs.Ytebpaafofombaaa
