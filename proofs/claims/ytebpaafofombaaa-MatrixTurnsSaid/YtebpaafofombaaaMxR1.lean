/-
  THE REFERENCE's MATRICES: rows of the call's own, each in a block of its own, written in place; noughts, Check, Identity.
-/
import Derived.Test.YtebpaafofombaaaMxW20
namespace Go.Proofs.Ytebpaafofombaaa
open Go.RowKit GfMath MxMath
set_option linter.unusedVariables false
theorem blk_of_own {w : World} {base q n : Nat} {t : TypeId} {xs : List Value} (h : w.ownsRow base t 1 (.slice (some ⟨q, 0, none⟩) n n) n xs) : Blk w q t xs.toArray := by
  rcases h.2 with ⟨e, _⟩ | ⟨g, cap, cur, e, _, hh, _, _, hs, ht⟩
  · injection e with e; cases e
  · injection e with e1 e2 e3
    injection e1 with e1
    injection e1 with e1
    subst e1 e3
    rw [Nat.mul_one] at hs ht
    rw [List.take_of_length_le (by simp [hs])] at ht
    have : cur = xs.toArray := by rw [← ht]
    rw [← this]
    exact hh
theorem own_of_blk {w : World} {base q n : Nat} {t : TypeId} {xs : List Value} (h : Blk w q t xs.toArray) (hl : xs.length = n) (hb : base ≤ q) (hn : n ≤ maxLen) : w.ownsRow base t 1 (.slice (some ⟨q, 0, none⟩) n n) n xs :=
  ⟨by omega, .inr ⟨q, n, xs.toArray, rfl, hb, h, Nat.le_refl _, hn, by simp [hl], by rw [Nat.mul_one]; exact List.take_of_length_le (by simp [hl])⟩⟩
/-- Rows of the call's own, no two in one block. -/
structure ZSt (w : World) (v : Value) (r n : Nat) (g : Nat → Nat) (M : Mat) (wr : World) : Prop where
  own : wr.ownsRow w.heap.size 22 1 v r ((List.range r).map fun i => .slice (some ⟨g i, 0, none⟩) n n)
  rows : ∀ i, i < r → w.heap.size ≤ g i ∧ Blk wr (g i) 5 ((lrow n (M i)).map bv).toArray
  inj : ∀ i j, i < r → j < r → g i = g j → i = j
  bel : Below w.heap.size w wr
section
variable {w wr w' : World} {v : Value} {r n : Nat} {g : Nat → Nat} {M K : Mat}
theorem ZSt.nil (w : World) (g : Nat → Nat) (M : Mat) (n : Nat) : ZSt w (.slice none 0 0) 0 n g M w := ⟨⟨rfl, .inl ⟨rfl, rfl⟩⟩, fun i h => absurd h (by omega), fun i j h => absurd h (by omega), Below.refl _ _⟩
theorem ZSt.later (h : ZSt w v r n g M wr) (hb : Below wr.heap.size wr w') : ZSt w v r n g M w' :=
  ⟨own_below h.own hb, fun i hi => ⟨(h.rows i hi).1, (h.rows i hi).2.below hb (h.rows i hi).2.lt⟩, h.inj, h.bel.trans (hb.mono h.bel.size)⟩
theorem ZSt.congr (h : ZSt w v r n g M wr) (hk : ∀ i j, i < r → j < n → M i j = K i j) : ZSt w v r n g K wr :=
  ⟨h.own, fun i hi => ⟨(h.rows i hi).1, by rw [← lrow_congr (fun j hj => hk i j hi hj)]; exact (h.rows i hi).2⟩, h.inj, h.bel⟩
theorem ZSt.drewN (h : ZSt w v r n g M wr) (d : Nat) : ZSt w v r n g M (wr.drewN d) := ⟨h.own, fun i hi => ⟨(h.rows i hi).1, (h.rows i hi).2.drewN d⟩, h.inj, bel_drewN h.bel d⟩
/-- As a matrix of the call's own. -/
theorem ZSt.toM (h : ZSt w v r n g M wr) (hn : n ≤ maxLen) : MSt w v (lmat r n M) wr := by
  refine ⟨⟨_, by rw [lmat_len]; exact h.own, by simp [lmat_len], fun i l hl => ?_⟩, h.bel⟩
  have hi : i < r := by have := (List.getElem?_eq_some_iff.1 hl).1; rwa [lmat_len] at this
  rw [lmat_get M hi] at hl
  injection hl with hl
  subst hl
  refine ⟨.slice (some ⟨g i, 0, none⟩) n n, by rw [List.getElem?_map, List.getElem?_range hi]; rfl, ?_, lrow_byt _ _⟩
  rw [lrow_len]
  exact own_of_blk (h.rows i hi).2 (by rw [List.length_map, lrow_len]) (h.rows i hi).1 hn
/-- The outer slice: where it lies, its cells. -/
theorem ZSt.outer (h : ZSt w v r n g M wr) (hr : 0 < r) : ∃ go c, v = .slice (some ⟨go, 0, none⟩) r c ∧ r ≤ c ∧ c ≤ maxLen ∧ ∀ i, i < r → wr.cell? ⟨go, i, none⟩ = some (.slice (some ⟨g i, 0, none⟩) n n) := by
  obtain ⟨go, c, rfl, _⟩ := h.own.form hr
  obtain ⟨A, c', e, h1, h2⟩ := own_slice h.own
  injection e with _ _ e3
  subst e3
  refine ⟨go, c, rfl, h1, h2, fun i hi => ?_⟩
  have := h.own.cellAt i (by omega)
  rw [this, List.getElem?_map, List.getElem?_range hi]
  rfl
theorem ZSt.inner (h : ZSt w v r n g M wr) {i j : Nat} (hi : i < r) (hj : j < n) : wr.cell? ⟨g i, j, none⟩ = some (.int .u8 (M i j).v) ∧ wr.frozen? ⟨g i, j, none⟩ = false := by
  refine ⟨?_, (h.rows i hi).2.frozen j⟩
  rw [(h.rows i hi).2.cell j]
  simp [lrow_get (M i) hj, bv]
theorem ZSt.set_ (h : ZSt w v r n g M wr) {i j x : Nat} (hi : i < r) (hj : j < n) (hx : x < 256) (hK : ∀ p q, p < r → q < n → K p q = if p = i ∧ q = j then el x else M p q) : ZSt w v r n g K (wr.setCell ⟨g i, j, none⟩ (.int .u8 x)) := by
  refine ⟨own_far h.own (own_blk_ne h.own (h.rows i hi).2 (by decide)) _, fun p hp => ⟨(h.rows p hp).1, ?_⟩, h.inj, h.bel.setCell (h.rows i hi).1 _⟩
  by_cases e : p = i
  · subst e
    have h1 := (h.rows p hp).2.set_ j (bv x)
    have h2 : ((lrow n (M p)).map bv).set j (bv x) = (lrow n (K p)).map bv := row_set n j (M p) (K p) hj x (fun q hq => by rw [hK p q hp hq]; by_cases e2 : q = j <;> simp [e2, el]) hx
    have h3 : (((lrow n (M p)).map bv).toArray).setIfInBounds j (bv x) = ((lrow n (K p)).map bv).toArray := by rw [← h2]; simp
    rw [h3] at h1
    exact h1
  · have h1 := (h.rows p hp).2.far (p := ⟨g i, j, none⟩) (fun e2 => e (h.inj p i hp hi e2)) (.int .u8 x)
    rw [← lrow_congr (fun q hq => by rw [hK p q hp hq, if_neg (fun e3 => e e3.1)] : ∀ q, q < n → M p q = K p q)]
    exact h1
end
theorem wpl_zrow {ops : Array Oper} {rest : List Oper} {o : Oper} {a : Act} {Q : Exit → Act → World → Prop} {w wr : World} {v : Value} {r n : Nat} {g : Nat → Nat} {M : Mat} (hg : o.guard = none) (s x : Operand)
    (ho : o.op = .call { callee := .builtin .append, args := #[s, x], argTypes := #[24, 24] }) (hst : ZSt w v r n g M wr) (hl : r ≤ 1000) (q : Nat) (hq : w.heap.size ≤ q) (hne : ∀ i, i < r → g i ≠ q) (hB : Blk wr q 5 ((lrow n (M r)).map bv).toArray)
    (hs : a.eval s = v) {gx : Nat} (hgx : gx = wr.heap.size) (hx : a.eval x = .slice (some ⟨gx, 0, none⟩) 1 1)
    (h : ∀ v' w', Hid (ZSt w v' (r + 1) n (fun i => if i = r then q else g i) M w') → wpList Try.prog ops Q rest (a.put o.dst v') w') : wpList Try.prog ops Q (o :: rest) a (wr.alloc (.cells #[.slice (some ⟨q, 0, none⟩) n n] 22)) := by
  subst hgx
  obtain ⟨i, hi, h2, h3, h4⟩ := info_parts Try.info22
  have hst' := hst.later ((Below.refl wr.heap.size wr).alloc (Nat.le_refl _) (.cells #[.slice (some ⟨q, 0, none⟩) n n] 22))
  refine wpList_append_any _ hg s x 24 ho w.heap.size 22 i (.slice none 0 0) 1 24 Try.underlying24 hi h2 h3 h4 rfl (by decide) v r _ hs hst'.own (wr.heap.size + 1) (some ⟨wr.heap.size, 0, none⟩) 1 1 [.slice (some ⟨q, 0, none⟩) n n] hx
    (Reads.lit1 wr 22 _) (by intro y hy; rw [List.mem_singleton.1 hy]; rfl) (by unfold maxLen; omega) (by omega) hst'.bel.size fun v' w' k1 k2 k3 => h v' w' (Lib.hid ⟨?_, ?_, ?_, ?_⟩)
  · have e : ((List.range (r + 1)).map fun i => Value.slice (some ⟨if i = r then q else g i, 0, none⟩) n n) = ((List.range r).map fun i => Value.slice (some ⟨g i, 0, none⟩) n n) ++ [.slice (some ⟨q, 0, none⟩) n n] := by
      rw [List.range_succ, List.map_append]
      congr 1
      · refine List.map_congr_left fun i hi => ?_
        rw [if_neg (by have := List.mem_range.1 hi; omega)]
      · simp
    rw [e]; exact k1
  · intro p hp
    by_cases e : p = r
    · subst e
      refine ⟨by simpa using hq, ?_⟩
      simp only [if_true]
      exact (hB.alloc _).grown k2 fun e => own_blk_ne hst'.own (hB.alloc _) (by decide) e.symm
    · have hp' : p < r := by omega
      simp only [if_neg e]
      exact ⟨(hst'.rows p hp').1, (hst'.rows p hp').2.grown k2 fun e => own_blk_ne hst'.own (hst'.rows p hp').2 (by decide) e.symm⟩
  · intro p p' hp hp' e
    by_cases e1 : p = r <;> by_cases e2 : p' = r
    · omega
    · subst e1; simp only [if_true, if_neg e2] at e; exact absurd e.symm (hne p' (by omega))
    · subst e2; simp only [if_true, if_neg e1] at e; exact absurd e (hne p (by omega))
    · simp only [if_neg e1, if_neg e2] at e; exact hst'.inj p p' (by omega) (by omega) e
  · exact bel_grown_own hst'.bel hst'.bel.size hst'.own k2
def RetZ (r n : Nat) (w : World) (e : Ending) (w' : World) : Prop := ∃ v g, e = .returned v ∧ ZSt w v r n g (fun _ _ => 0) w'
set_option maxRecDepth 100000 in
set_option maxHeartbeats 1000000 in
theorem zeros_any (r n : Nat) (w : World) (h0 : r ≤ 255) (h1 : n ≤ 255) :
    Calls Try.prog 37 #[.int .i64 r, .int .i64 n] w (RetZ r n w) := by
  have HST : Hid (ZSt w (.slice none 0 0) 0 n (fun _ => 0) (fun _ _ => 0) w) := Lib.hid (ZSt.nil w _ _ n)
  go_enter Try.func37, Try.ntmps37
  go_wp2
  go_loopw [5, 6] (fun vo vi wr => ∃ k : Nat, ∃ g : Nat → Nat, k ≤ r ∧ vi = .int .i64 k ∧ Hid (ZSt w vo k n g (fun _ _ => 0) wr)) (fun _ vi _ => r - (intOf vi).toNat)
  case atStart => exact ⟨0, _, by omega, rfl, HST⟩
  case round =>
    obtain ⟨k, g, hk, rfl, hst⟩ := hrel
    clear HST
    have hmk := run_make_row' (P := Try.prog) 22 5 (.int .u8 0) 1 Try.underlying22 Try.info5 rfl .i64 .i64 n (by omega) (by omega)
    by_cases hlt : k < r
    · have hz := blk_of_own (own_zeros wr n (by unfold maxLen; omega))
      have HZ := Lib.hid hz
      have HB := Lib.hid ((Below.refl wr.heap.size wr).alloc (Nat.le_refl _) (.cells (madeCells #[.int .u8 0] n) 5))
      clear hz
      go_wp2_with (at_builtin
                   refine wpl_zrow rfl (.tmp 12) (.tmp 15) rfl (hst.out.later HB.out) (by omega) wr.heap.size hst.out.bel.size ?ne HZ.out rfl ?gx rfl ?_
                   case ne => exact fun i hi e => absurd (hst.out.rows i hi).2.lt (by omega)
                   case gx => simp
                   intro v2 w2 hh)
      exact ⟨⟨k + 1, _, by omega, by go_num, hh⟩, by simp [intOf]; omega⟩
    · obtain rfl : r = k := by omega
      go_wp2
      go_ret
      exact ⟨_, _, rfl, hst.out⟩
set_option maxRecDepth 100000 in
theorem rcheck_ok (A : Option Addr) (cap n : Nat) (ls : List (List Nat)) (w : World) (HM : Hid (InM w A cap ls)) (hg : Good ls n) :
    Calls Try.prog 26 #[.slice A ls.length cap] w fun e w' => e = .returned (.tuple #[.int .i64 ls.length, .int .i64 n, .int .i64 0]) ∧ Below w.heap.size w w' := by
  obtain ⟨r0, r1, n0, n1, hall⟩ := hg
  have ALL := Lib.hid hall
  clear hall
  obtain ⟨ad, B, c, rfl, hc0, -⟩ := HM.out.row r0
  rw [ALL.out 0 r0, show ad.add 0 = ad from by simp [Addr.add]] at hc0
  obtain ⟨r, hr⟩ : ∃ r, ls.length = r := ⟨_, rfl⟩
  have hr' := Lib.hid hr
  rw [hr] at r0 r1 ⊢
  clear hr
  go_enter Try.func26, Try.ntmps26
  go_wp2
  go_loopw [5] (fun vi wr => ∃ k d : Nat, k ≤ r ∧ vi = .int .i64 k ∧ wr = w.drewN d) (fun vi _ => r - (intOf vi).toNat)
  case atStart => exact ⟨0, 0, by omega, rfl, rfl⟩
  case round =>
    obtain ⟨k, d, hk, rfl, rfl⟩ := hrel
    by_cases hlt : k < r
    · obtain ⟨ad', B, c, he, hc1, -⟩ := HM.out.row (i := k) (by rw [hr'.out]; exact hlt)
      rw [ALL.out k (by rw [hr'.out]; exact hlt)] at hc1
      cases he
      go_wp2
      go_quiet (fail)
      go_wp2
      exact ⟨⟨k + 1, _, by omega, by go_num, by first | rfl | exact World.drewN_drewN ..⟩, by simp [intOf]; omega⟩
    · obtain rfl : r = k := by omega
      go_wp2
      go_quiet (fail)
      go_wp2
      refine bodyPost_ret (v := .tuple #[.int .i64 r, .int .i64 n, .int .i64 0]) (by simp [results, Try.results26, go_sem]) rfl ⟨rfl, bel_drewN (bel_drewN (Below.refl _ _) _) _⟩
set_option maxRecDepth 100000 in
set_option maxHeartbeats 1000000 in
theorem rident_ok (n : Nat) (w : World) (h0 : 0 < n) (h1 : n ≤ 255) :
    Calls Try.prog 16 #[.int .i64 n] w (RetMM (lmat n n dl) 0 w) := by
  go_enter Try.func16, Try.ntmps16
  go_wp2_with (go_at_call 37; refine (zeros_any n n _ h1 h1).mono ?_; rintro e w1 ⟨v, g, rfl, hz⟩; have HZ := Lib.hid hz; clear hz)
  go_loopw [5] (fun vi wr => ∃ k : Nat, k ≤ n ∧ vi = .int .i64 k ∧ Hid (ZSt w v n n g (fun i j => if i < k then dl i j else 0) wr)) (fun vi _ => n - (intOf vi).toNat)
  case atStart => exact ⟨0, by omega, rfl, Lib.hid (HZ.out.congr fun i j _ _ => by simp)⟩
  case round =>
    obtain ⟨k, hk, rfl, hst⟩ := hrel
    by_cases hlt : k < n
    · obtain ⟨go, c, rfl, hc1, hc2, hcell⟩ := hst.out.outer h0
      have o1 := hcell k hlt
      obtain ⟨i1, i2⟩ := hst.out.inner hlt hlt
      clear hcell
      have HN := Lib.hid (hst.out.set_ (K := fun i j => if i < k + 1 then dl i j else 0) hlt hlt (show 1 < 256 by decide) (fun p q hp hq => by
        by_cases e : p = k
        · subst e
          by_cases e2 : q = p
          · subst e2; simp [dl]; rfl
          · simp [dl, e2, Ne.symm e2]
        · by_cases e3 : p < k
          · simp [e, e3, show p < k + 1 by omega]
          · simp [e, e3, show ¬ p < k + 1 by omega]))
      go_wp2
      exact ⟨⟨k + 1, by omega, by go_num, HN⟩, by simp [intOf]; omega⟩
    · obtain rfl : n = k := by omega
      go_wp2
      go_ret2
      exact ⟨_, rfl, (hst.out.congr fun i j hi _ => by simp [hi]).toM (by unfold maxLen; omega)⟩
end Go.Proofs.Ytebpaafofombaaa
