/-
  THE REFERENCE's scale AND add, IN PLACE; matrices whose rows are written in place.
-/
import Derived.Test.YtebpaafofombaaaMxR5
import Derived.Test.YtebpaafofombaaaLibS
namespace Go.Proofs.Ytebpaafofombaaa
open Go.RowKit GfMath MxMath
set_option linter.unusedVariables false
theorem Only.drewN {g : Nat} {w w' : World} (h : Only g w w') (d : Nat) : Only g w (w'.drewN d) := ⟨h.os, h.tape, h.output, h.size, h.block⟩
/-- A row of the call's own, in block g. -/
def RowAt (base g n cap : Nat) (f : Nat → El) (w : World) : Prop := w.ownsRow base 5 1 (.slice (some ⟨g, 0, none⟩) n cap) n ((lrow n f).map bv)
theorem RowAt.cell {base g n cap : Nat} {f : Nat → El} {w : World} (h : RowAt base g n cap f w) {j : Nat} (hj : j < n) : w.cell? ⟨g, j, none⟩ = some (.int .u8 (f j).v) ∧ w.frozen? ⟨g, j, none⟩ = false := by
  have := h.cellAt j (by omega)
  rw [List.getElem?_map, lrow_get f hj] at this
  exact ⟨this, h.frozenAt j⟩
theorem RowAt.set_ {base g n cap : Nat} {f k : Nat → El} {w : World} (h : RowAt base g n cap f w) {j x : Nat} (hj : j < n) (hx : x < 256) (hk : ∀ q, q < n → k q = if q = j then el x else f q) : RowAt base g n cap k (w.setCell ⟨g, j, none⟩ (.int .u8 x)) := by
  have h2 := (h.stored j (bv x)).1
  rw [row_set n j f k hj x (fun q hq => by rw [hk q hq]; by_cases e : q = j <;> simp [e, el]) hx] at h2
  exact h2
theorem RowAt.congr {base g n cap : Nat} {f k : Nat → El} {w : World} (h : RowAt base g n cap f w) (hk : ∀ q, q < n → f q = k q) : RowAt base g n cap k w := by
  unfold RowAt
  rw [← lrow_congr hk]; exact h
theorem RowAt.blk {base g n cap : Nat} {f : Nat → El} {w : World} (h : RowAt base g n cap f w) : ∃ cs, Blk w g 5 cs := by
  rcases h.2 with ⟨e, _⟩ | ⟨g', cap', cur, e, _, hh, _⟩
  · injection e with e; cases e
  · injection e with e1 e2 e3
    injection e1 with e1
    injection e1 with e1
    subst e1
    exact ⟨cur, hh⟩
theorem RowAt.lo {base g n cap : Nat} {f : Nat → El} {w : World} (h : RowAt base g n cap f w) : base ≤ g := (h.lt g rfl).1
theorem RowAt.hi {base g n cap : Nat} {f : Nat → El} {w : World} (h : RowAt base g n cap f w) : g < w.heap.size := (h.lt g rfl).2
theorem el_mul (a b : El) : el (gmul a.v b.v) = a * b := by
  apply El.ext'
  rw [el_v (gmul_lt a.lt), mul_v]
def RetRowOp (base g n cap : Nat) (f : Nat → El) (w : World) (e : Ending) (w' : World) : Prop := e = .returned (.tuple #[]) ∧ Only g w w' ∧ RowAt base g n cap f w'
set_option maxRecDepth 100000 in
set_option maxHeartbeats 1000000 in
theorem rscale (base g n cap : Nat) (f : Nat → El) (c : El) (w : World) (h : Hid (RowAt base g n cap f w)) (hn : n ≤ 255) :
    Calls Try.prog 47 #[.slice (some ⟨g, 0, none⟩) n cap, .int .u8 c.v] w (RetRowOp base g n cap (fun j => f j * c) w) := by
  have hcl := c.lt
  go_enter Try.func47, Try.ntmps47
  go_wp2
  go_loopw [4] (fun vi wr => ∃ j : Nat, j ≤ n ∧ vi = .int .i64 j ∧ Hid (Only g w wr ∧ RowAt base g n cap (fun q => if q < j then f q * c else f q) wr)) (fun vi _ => n - (intOf vi).toNat)
  case atStart => exact ⟨0, by omega, rfl, Lib.hid ⟨Only.refl _ _, h.out.congr (fun q _ => by simp)⟩⟩
  case round =>
    obtain ⟨j, hj, rfl, hst⟩ := hrel
    by_cases hlt : j < n
    · obtain ⟨c1, c2⟩ := hst.out.2.cell hlt
      rw [if_neg (Nat.lt_irrefl j)] at c1
      obtain ⟨x, hx⟩ : ∃ x, f j = x := ⟨_, rfl⟩
      rw [hx] at c1
      have HX := Lib.hid hx
      clear hx
      have hxl := x.lt
      have HN := Lib.hid (And.intro (hst.out.1.trans (Only.set_ wr g j (.int .u8 (gmul x.v c.v)))) (hst.out.2.set_ (k := fun q => if q < j + 1 then f q * c else f q) hlt (gmul_lt (b := c.v) x.lt) (fun q hq => by
        by_cases e : q = j
        · subst e; simp [HX.out, el_mul]
        · by_cases e2 : q < j
          · simp [e, e2, show q < j + 1 by omega]
          · simp [e, e2, show ¬ q < j + 1 by omega])))
      go_wp2_with (go_at_call 41; refine (rmul_any x.v c.v hxl hcl _).mono ?_; rintro e w1 ⟨rfl, rfl⟩)
      exact ⟨⟨j + 1, by omega, by go_num, HN⟩, by simp [intOf]; omega⟩
    · obtain rfl : n = j := by omega
      go_wp2
      go_end0
      exact ⟨rfl, hst.out.1, hst.out.2.congr (fun q hq => by simp [hq])⟩
set_option maxRecDepth 100000 in
set_option maxHeartbeats 4000000 in
theorem radd (base base' g g' n cap cap' : Nat) (f k : Nat → El) (c : El) (w : World) (h : Hid (RowAt base g n cap f w)) (h' : Hid (RowAt base' g' n cap' k w)) (hne : g' ≠ g) (hn : n ≤ 255) :
    Calls Try.prog 48 #[.slice (some ⟨g, 0, none⟩) n cap, .slice (some ⟨g', 0, none⟩) n cap', .int .u8 c.v] w (RetRowOp base g n cap (fun j => f j + k j * c) w) := by
  have hcl := c.lt
  go_enter Try.func48, Try.ntmps48
  go_wp2
  go_loopw [6] (fun vi wr => ∃ j : Nat, j ≤ n ∧ vi = .int .i64 j ∧ Hid (Only g w wr ∧ RowAt base g n cap (fun q => if q < j then f q + k q * c else f q) wr)) (fun vi _ => n - (intOf vi).toNat)
  case atStart => exact ⟨0, by omega, rfl, Lib.hid ⟨Only.refl _ _, h.out.congr (fun q _ => by simp)⟩⟩
  case round =>
    obtain ⟨j, hj, rfl, hst⟩ := hrel
    by_cases hlt : j < n
    · obtain ⟨c1, c2⟩ := hst.out.2.cell hlt
      have d1 : wr.cell? ⟨g', j, none⟩ = some (.int .u8 (k j).v) := (hst.out.1.cell (p := ⟨g', j, none⟩) hne).trans (h'.out.cell hlt).1
      rw [if_neg (Nat.lt_irrefl j)] at c1
      obtain ⟨x, hx⟩ : ∃ x, f j = x := ⟨_, rfl⟩
      obtain ⟨y, hy⟩ : ∃ y, k j = y := ⟨_, rfl⟩
      rw [hx] at c1
      rw [hy] at d1
      have HX := Lib.hid hx
      have HY := Lib.hid hy
      clear hx hy
      have hxl := x.lt
      have hyl := y.lt
      have hml := gmul_lt (b := c.v) y.lt
      have x8 := xor8 x.v (gmul y.v c.v) hxl hml
      have hzl : x.v ^^^ gmul y.v c.v < 256 := Nat.xor_lt_two_pow (n := 8) hxl hml
      have HN := Lib.hid (fun d : Nat => And.intro ((hst.out.1.drewN d).trans (Only.set_ (wr.drewN d) g j (.int .u8 ((x.v ^^^ gmul y.v c.v : Nat) : Int)))) (RowAt.set_ (w := wr.drewN d) hst.out.2 (k := fun q => if q < j + 1 then f q + k q * c else f q) hlt hzl (fun q hq => by
        by_cases e : q = j
        · subst e
          simp only [HX.out, HY.out, show q < q + 1 by omega, if_true]
          exact El.ext' (by rw [el_v hzl, add_v, mul_v])
        · by_cases e2 : q < j
          · simp [e, e2, show q < j + 1 by omega]
          · simp [e, e2, show ¬ q < j + 1 by omega])))
      obtain ⟨z, hz⟩ : ∃ z, x.v ^^^ gmul y.v c.v = z := ⟨_, rfl⟩
      rw [hz] at x8 HN hzl
      clear hz
      go_wp2
      refine wp_region_late (S0 := fun w' => w'.cell? ⟨g', j, none⟩ = some (.int .u8 y.v)) (S := fun w' => w'.cell? ⟨g, j, none⟩ = some (.int .u8 x.v) ∧ w'.frozen? ⟨g, j, none⟩ = false) 14 15 (by kernel_rfl) rfl ⟨d1, c1, c2⟩ (fun wd hwd hH => ?_)
      subst hwd
      have hnd := Lib.hid (HN.out 1)
      refine wpAnyT_stay 0 (v := ?_) rfl (by kernel_rfl) (fun _ _ _ h => h) (Or.inl ⟨by rfl, ?_⟩) ⟨hH.1, fun _ => hH.2⟩ ?_
      rotate_left
      · (intro wx hx; go_simp <;> with_reducible rfl)
      try simp only [Act.put, List.setIfInBounds_toArray, List.set_cons_zero, List.set_cons_succ]
      refine wpAnyT_stay 1 (v := ?_) rfl (by kernel_rfl) (fun _ _ _ h => h) (Or.inl ⟨by rfl, ?_⟩) ⟨hH.1, fun _ => hH.2⟩ ?_
      rotate_left
      · (intro wx hx; go_simp <;> with_reducible rfl)
      try simp only [Act.put, List.setIfInBounds_toArray, List.set_cons_zero, List.set_cons_succ]
      refine wpAnyT_stay 2 (v := ?_) rfl (by kernel_rfl) (fun _ _ _ h => h) (Or.inl ⟨by rfl, ?_⟩) ⟨hH.1, fun _ => hH.2⟩ ?_
      rotate_left
      · (intro wx hx; go_simp <;> with_reducible rfl)
      try simp only [Act.put, List.setIfInBounds_toArray, List.set_cons_zero, List.set_cons_succ]
      refine wpAnyT_stay 3 (v := ?_) rfl (by kernel_rfl) (fun _ _ _ h => h) (Or.inl ⟨by rfl, ?_⟩) ⟨hH.1, fun _ => hH.2⟩ ?_
      rotate_left
      · (intro wx hx; go_simp <;> with_reducible rfl)
      try simp only [Act.put, List.setIfInBounds_toArray, List.set_cons_zero, List.set_cons_succ]
      refine wpAnyT_stay 4 (v := ?_) rfl (by kernel_rfl) (fun _ _ _ h => h) (Or.inl ⟨by rfl, ?_⟩) ⟨hH.1, fun _ => hH.2⟩ ?_
      rotate_left
      · (intro wx hx; go_simp <;> with_reducible rfl)
      try simp only [Act.put, List.setIfInBounds_toArray, List.set_cons_zero, List.set_cons_succ]
      refine wpAnyT_take 5 (v := ?_) rfl (by kernel_rfl) (fun _ _ _ h => h) (Or.inl ⟨by rfl, ?_⟩) hH ?_
      rotate_left
      · (intro wx hx; obtain ⟨_, _⟩ := hx; go_simp <;> with_reducible rfl)
      try simp only [Act.put, List.setIfInBounds_toArray, List.set_cons_zero, List.set_cons_succ]
      refine wpAnyT_stay 6 (v := ?_) rfl (by kernel_rfl) (fun _ _ _ h => h) (Or.inl ⟨by rfl, ?_⟩) ⟨hH.1, fun _ => hH.2⟩ ?_
      rotate_left
      · (intro wx hx; go_simp <;> with_reducible rfl)
      try simp only [Act.put, List.setIfInBounds_toArray, List.set_cons_zero, List.set_cons_succ]
      refine wpAnyT_stay 7 (v := ?_) rfl (by kernel_rfl) (fun _ _ _ h => h) (Or.inl ⟨by rfl, ?_⟩) ⟨hH.1, fun _ => hH.2⟩ ?_
      rotate_left
      · (intro wx hx; go_simp <;> with_reducible rfl)
      try simp only [Act.put, List.setIfInBounds_toArray, List.set_cons_zero, List.set_cons_succ]
      refine wpAnyT_stay 8 (v := ?_) rfl (by kernel_rfl) (fun _ _ _ h => h) (Or.inl ⟨by rfl, ?_⟩) ⟨hH.1, fun _ => hH.2⟩ ?_
      rotate_left
      · (intro wx hx; go_simp <;> with_reducible rfl)
      try simp only [Act.put, List.setIfInBounds_toArray, List.set_cons_zero, List.set_cons_succ]
      refine wpAnyT_stay 9 (v := ?_) rfl (by kernel_rfl) (fun _ _ _ h => h) (Or.inl ⟨by rfl, ?_⟩) ⟨hH.1, fun _ => hH.2⟩ ?_
      rotate_left
      · (intro wx hx; go_simp <;> with_reducible rfl)
      try simp only [Act.put, List.setIfInBounds_toArray, List.set_cons_zero, List.set_cons_succ]
      refine wpAnyT_stay 10 (v := ?_) rfl (by kernel_rfl) (fun _ _ _ h => h) (Or.inl ⟨by rfl, ?_⟩) ⟨hH.1, fun _ => hH.2⟩ ?_
      rotate_left
      · (intro wx hx; go_simp <;> with_reducible rfl)
      try simp only [Act.put, List.setIfInBounds_toArray, List.set_cons_zero, List.set_cons_succ]
      refine wpAnyT_one 11 rfl (by kernel_rfl) (fun K hK => ?_)
      go_simp
      (go_at_call 41; refine (rmul_any y.v c.v hyl hcl _).mono ?_; rintro e w1 ⟨rfl, rfl⟩)
      refine hK.out _ _ hH (fun hH11 => ?_)
      clear hK K
      try simp only [Act.put, List.setIfInBounds_toArray, List.set_cons_zero, List.set_cons_succ]
      refine wpAnyT_stay 12 (v := ?_) rfl (by kernel_rfl) (fun _ _ _ h => h) (Or.inl ⟨by rfl, ?_⟩) ⟨hH.1, fun _ => hH.2⟩ ?_
      rotate_left
      · (intro wx hx; go_simp <;> with_reducible rfl)
      try simp only [Act.put, List.setIfInBounds_toArray, List.set_cons_zero, List.set_cons_succ]
      refine wpAnyT_stay 13 (v := ?_) rfl (by kernel_rfl) (fun _ _ _ h => h) (Or.inl ⟨by rfl, ?_⟩) ⟨hH.1, fun _ => hH.2⟩ ?_
      rotate_left
      · (intro wx hx; go_simp <;> with_reducible rfl)
      try simp only [Act.put, List.setIfInBounds_toArray, List.set_cons_zero, List.set_cons_succ]
      refine wpAnyT_last 14 rfl (by kernel_rfl) (by decide) (fun K hK => ?_)
      have i1d := hH.2.1
      have i2d := hH.2.2
      go_simp
      refine hK.out _ _ ?_ (fun hH14 => ?_)
      · exact (World.cell?_setCell_other _ ⟨g, j, none⟩ ⟨g', j, none⟩ _ (fun e => hne (by have h9 := congrArg Addr.block e; first | exact h9 | exact h9.symm))).trans hH.1
      clear hK K
      try simp only [Act.put]
      refine wpAnyT_done (by kernel_rfl) ?_ _
      clear hH hH11 hH14 i1d i2d c1 c2 d1
      go_wp2
      exact ⟨⟨j + 1, by omega, by go_num, hnd⟩, by simp [intOf]; omega⟩
    · obtain rfl : n = j := by omega
      go_wp2
      go_end0
      exact ⟨rfl, hst.out.1, hst.out.2.congr (fun q hq => by simp [hq])⟩
end Go.Proofs.Ytebpaafofombaaa
