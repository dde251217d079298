/-
  square; the reference's Same.
-/
import Derived.Test.YtebpaafofombaaaMxW9
namespace Go.Proofs.Ytebpaafofombaaa
open Go.RowKit GfMath MxMath
set_option linter.unusedVariables false
theorem el_v {x : Nat} (h : x < 256) : (el x).v = x := Nat.mod_eq_of_lt h
/-- What square answers. -/
def sqM (xs : List Nat) (n : Nat) : Mat := fun i j => el (xs.getD (i * n + j) 0)
/-- A row of the call's own, that is being filled. -/
structure Fill (wr : World) (n : Nat) (f : Nat → El) (w' : World) : Prop where
  own : w'.ownsRow wr.heap.size 5 1 (.slice (some ⟨wr.heap.size, 0, none⟩) n n) n ((lrow n f).map bv)
  bel : Below wr.heap.size wr w'
theorem Fill.new (wr : World) (n : Nat) (hm : n ≤ maxLen) : Fill wr n (fun _ => 0) (wr.alloc (.cells (madeCells #[.int .u8 0] n) 5)) := ⟨own_zeros wr n hm, (Below.refl _ _).alloc (Nat.le_refl _) _⟩
theorem Fill.cell {wr w' : World} {n : Nat} {f : Nat → El} (h : Fill wr n f w') {j : Nat} (hj : j < n) : w'.cell? ⟨wr.heap.size, j, none⟩ = some (.int .u8 (f j).v) ∧ w'.frozen? ⟨wr.heap.size, j, none⟩ = false := by
  have := h.own.cellAt j (by omega)
  rw [List.getElem?_map, lrow_get f hj] at this
  exact ⟨this, h.own.frozenAt j⟩
theorem Fill.set_ {wr w' : World} {n : Nat} {f g : Nat → El} (h : Fill wr n f w') {j x : Nat} (hj : j < n) (hx : x < 256) (hg : ∀ q, q < n → g q = if q = j then ⟨x % 256, Nat.mod_lt _ (by omega)⟩ else f q) : Fill wr n g (w'.setCell ⟨wr.heap.size, j, none⟩ (.int .u8 x)) := by
  have h2 := (h.own.stored j (bv x)).1
  rw [row_set n j f g hj x hg hx] at h2
  exact ⟨h2, h.bel.setCell (by simp) _⟩
theorem Fill.congr {wr w' : World} {n : Nat} {f g : Nat → El} (h : Fill wr n f w') (hg : ∀ q, q < n → f q = g q) : Fill wr n g w' := ⟨lrow_congr hg ▸ h.own, h.bel⟩
theorem Fill.drewN {wr w' : World} {n : Nat} {f : Nat → El} (h : Fill wr n f w') (d : Nat) : Fill wr n f (w'.drewN d) := ⟨h.own, bel_drewN h.bel d⟩
theorem Fill.later {wr w' w'' : World} {n : Nat} {f : Nat → El} (h : Fill wr n f w') (hb : Below w'.heap.size w' w'') : Fill wr n f w'' := ⟨own_below h.own hb, h.bel.trans (hb.mono h.bel.size)⟩
set_option maxRecDepth 100000 in
set_option maxHeartbeats 1000000 in
theorem square_any (A : Option Addr) (cap len n : Nat) (xs : List Nat) (w : World) (hx : Byt xs) (hl : xs.length = len) (HA : Hid (Reads w w.heap.size 1 A len (xs.map bv))) (n1 : n ≤ 255) (hm : len ≤ maxLen) :
    Calls Try.prog 10 #[.slice A len cap, .int .i64 n] w (RetMx (lmat n n (sqM xs n)) w) := by
  unfold maxLen at hm
  have HL := Lib.hid hl
  clear hl
  have HST : Hid (MSt w (.slice none 0 0) (lmat 0 n (sqM xs n)) w) := Lib.hid (MSt.nil (Below.refl _ _))
  go_enter Try.func10, Try.ntmps10
  go_wp2
  go_loopw [5, 6, 7, 8] (fun vo vi _ _ wr => ∃ k : Nat, k ≤ n ∧ vi = .int .i64 k ∧ Hid (MSt w vo (lmat k n (sqM xs n)) wr)) (fun _ vi _ _ _ => n - (intOf vi).toNat)
  case atStart => exact ⟨0, by omega, rfl, HST⟩
  case round =>
    obtain ⟨k, hk, rfl, hst⟩ := hrel
    clear HST
    have hmk := run_make_row' (P := Try.prog) 22 5 (.int .u8 0) 1 Try.underlying22 Try.info5 rfl .i64 .i64 n (by omega) (by omega)
    by_cases hlt : k < n
    · have HF := Lib.hid (Fill.new wr n (by unfold maxLen; omega))
      go_wp2
      clear hmk
      generalize wr.alloc (.cells (madeCells #[.int .u8 0] n) 5) = wa at *
      have hp1 : k * n ≤ 255 * 255 := Nat.mul_le_mul (by omega) (by omega)
      obtain ⟨p, hp⟩ : ∃ p, k * n = p := ⟨_, rfl⟩
      have hpi : (k : Int) * (n : Int) = (p : Int) := by rw [← hp]; simp
      have HP := Lib.hid hp
      rw [hp] at hp1
      clear hp
      go_loopw [8] (fun vi w' => ∃ j : Nat, j ≤ n ∧ vi = .int .i64 j ∧ Hid (Fill wr n (fun q => if q < j then sqM xs n k q else 0) w')) (fun vi _ => n - (intOf vi).toNat)
      case atStart => exact ⟨0, by omega, rfl, Lib.hid (HF.out.congr fun q _ => by simp)⟩
      case round =>
        obtain ⟨j, hj, rfl, hF⟩ := hrel
        clear HF
        by_cases hjl : j < n
        · obtain ⟨c1, c2⟩ := hF.out.cell hjl
          have hadd : IntKind.i64.wrap ((p : Int) + (j : Int)) = ((p + j : Nat) : Int) := IntWalk.i64_in _ (by omega)
          by_cases hin : p + j < len
          · obtain ⟨ad, rfl, _, hd⟩ := (HA.out.later (hst.out.bel.trans (hF.out.bel.mono hst.out.bel.size))).byteD hin
            have h256 := hx.getD (p + j)
            have HN := Lib.hid (hF.out.set_ (g := fun q => if q < j + 1 then sqM xs n k q else 0) hjl h256 (fun q _ => by
              by_cases e : q = j
              · subst e
                rw [if_pos rfl, if_pos (by omega)]
                unfold sqM el
                rw [HP.out]
              · rw [if_neg e]
                by_cases e2 : q < j
                · rw [if_pos e2, if_pos (by omega)]
                · rw [if_neg e2, if_neg (by omega)]))
            generalize xs.getD (p + j) 0 = x at *
            go_wp2
            exact ⟨⟨j + 1, by omega, by go_num, HN⟩, by simp [intOf]; omega⟩
          · have HN := Lib.hid (hF.out.congr (g := fun q => if q < j + 1 then sqM xs n k q else 0) (fun q _ => by
              by_cases e : q = j
              · subst e
                rw [if_neg (by omega), if_pos (by omega)]
                unfold sqM
                rw [HP.out, List.getD_eq_getElem?_getD, List.getElem?_eq_none (by rw [HL.out]; omega)]
                rfl
              · by_cases e2 : q < j
                · rw [if_pos e2, if_pos (by omega)]
                · rw [if_neg e2, if_neg (by omega)]))
            go_wp2
            exact ⟨⟨j + 1, by omega, by go_num, HN⟩, by simp [intOf]; omega⟩
        · obtain rfl : j = n := by omega
          have HO := Lib.hid (hF.out.congr (g := sqM xs j k) (fun q hq => by rw [if_pos hq]))
          go_wp2_with (at_builtin
                       refine wpl_row rfl (.tmp 40) (.tmp 42) rfl (hst.out.below HO.out.bel) ?ln (.slice (some ⟨_, 0, none⟩) j j) (lrow j (sqM xs j k)) ?ow (lrow_byt _ _) rfl ?gx rfl ?_
                       case gx => rfl
                       case ln => (rw [lmat_len]; omega)
                       case ow => (rw [lrow_len]; exact own_base HO.out.own hst.out.bel.size)
                       intro v2 w2 hh)
          refine ⟨⟨k + 1, by omega, by go_num, Lib.hid ?_⟩, by simp [intOf]; omega⟩
          rw [lmat_snoc]; exact hh.out.1
    · obtain rfl : k = n := by omega
      go_wp2
      go_ret
      exact ⟨_, rfl, hst.out⟩
end Go.Proofs.Ytebpaafofombaaa
