/-
  Identity.
-/
import Derived.Test.YtebpaafofombaaaMxW6
namespace Go.Proofs.Ytebpaafofombaaa
open Go.RowKit GfMath MxMath
set_option linter.unusedVariables false
/-- A matrix and an Errno that are answered. -/
def RetMM (ls : List (List Nat)) (code : Int) (w : World) (e : Ending) (w' : World) : Prop := ∃ v, e = .returned (.tuple #[v, .int .i64 code]) ∧ MSt w v ls w'
theorem row_set (n k : Nat) (f g : Nat → El) (hk : k < n) (x : Nat) (h : ∀ j, j < n → g j = if j = k then ⟨x % 256, Nat.mod_lt _ (by omega)⟩ else f j) (hx : x < 256) : ((lrow n f).map bv).set k (bv x) = (lrow n g).map bv := by
  apply List.ext_getElem?
  intro j
  by_cases hj : j < n
  · rw [List.getElem?_map, lrow_get g hj, h j hj, List.getElem?_set]
    by_cases e : j = k
    · subst e
      rw [if_pos rfl, if_pos rfl, if_pos (by rw [List.length_map, lrow_len]; exact hj)]
      show some (bv x) = some (bv (x % 256))
      rw [Nat.mod_eq_of_lt hx]
    · rw [if_neg (fun e2 => e e2.symm), if_neg e, List.getElem?_map, lrow_get f hj]
  · rw [List.getElem?_eq_none (by simp [lrow_len]; omega), List.getElem?_eq_none (by simp [lrow_len]; omega)]
/-- A world with the call's Errno in a block of its own. -/
structure ESt (w : World) (v : Value) (ls : List (List Nat)) (wr : World) : Prop extends MSt w v ls wr where
  err : Blk wr w.heap.size 26 #[.int .i64 0]
theorem ESt.new (w : World) : ESt w (.slice none 0 0) [] (w.alloc (.cells #[.int .i64 0] 26)) := ⟨MSt.nil ((Below.refl _ _).alloc (Nat.le_refl _) _), Blk.new _ _ _⟩
theorem ESt.later {w wr w' : World} {v : Value} {ls : List (List Nat)} (h : ESt w v ls wr) (hb : Below wr.heap.size wr w') : ESt w v ls w' := ⟨h.toMSt.below hb, h.err.below hb h.err.lt⟩
/-- The end of a call that refused nothing: the world behind the store of OK. -/
theorem ESt.ends {w wr : World} {v : Value} {ls : List (List Nat)} (h : ESt w v ls wr) (c : Int) : MSt w v ls (wr.setCell ⟨w.heap.size, 0, none⟩ (.int .i64 c)) ∧ (wr.setCell ⟨w.heap.size, 0, none⟩ (.int .i64 c)).cell? ⟨w.heap.size, 0, none⟩ = some (.int .i64 c) := by
  obtain ⟨⟨⟨vs, ho, hr⟩, hb⟩, he⟩ := h
  refine ⟨⟨⟨vs, own_far ho (own_blk_ne ho he (by decide)) _, ?_⟩, ?_⟩, ?_⟩
  · exact ⟨hr.1, fun i l hl => let ⟨u, hv, hu, hy⟩ := hr.2 i l hl; ⟨u, hv, own_far hu (own_blk_ne hu he (by decide)) _, hy⟩⟩
  · exact hb.setCell (by simp) _
  · exact World.cell?_setCell_same _ _ _ (he.cell 0)
set_option maxRecDepth 100000 in
set_option maxHeartbeats 1000000 in
theorem identity_ok (n : Nat) (w : World) (h0 : 0 < n) (h1 : n ≤ 255) :
    Calls Try.prog 11 #[.int .i64 n] w (RetMM (lmat n n dl) 0 w) := by
  have e1 : decide (0 < (n : Int)) = true := decide_eq_true (by omega)
  have e2 : decide ((n : Int) ≤ 255) = true := decide_eq_true (by omega)
  have hmk := run_make_row' (P := Try.prog) 22 5 (.int .u8 0) 1 Try.underlying22 Try.info5 rfl .i64 .i64 n (by omega) (by omega)
  have HST : Hid (ESt w (.slice none 0 0) (lmat 0 n dl) (w.alloc (.cells #[.int .i64 0] 26))) := Lib.hid (ESt.new w)
  go_enter_defers Try.func11, Try.ntmps11
  go_wp2_with (go_at_call 32; refine (needs_ok _).mono ?_; rintro e w1 ⟨rfl, rfl⟩)
  clear hmk
  generalize w.alloc (.cells #[.int .i64 0] 26) = wa at *
  go_loopw [2, 4, 5, 14] (fun vo _ _ vi wr => ∃ k : Nat, k ≤ n ∧ vi = .int .i64 k ∧ Hid (ESt w vo (lmat k n dl) wr)) (fun _ _ _ vi _ => n - (intOf vi).toNat)
  case atStart => exact ⟨0, by omega, rfl, HST⟩
  case round =>
    obtain ⟨k, hk, rfl, hst⟩ := hrel
    clear HST
    have hmk := run_make_row' (P := Try.prog) 22 5 (.int .u8 0) 1 Try.underlying22 Try.info5 rfl .i64 .i64 n (by omega) (by omega)
    by_cases hlt : k < n
    · have hz := own_zeros wr n (by unfold maxLen; omega)
      have hc0 := hz.cellAt k (by omega)
      rw [List.getElem?_map, lrow_get _ hlt] at hc0
      have hc : (wr.alloc (.cells (madeCells #[.int .u8 0] n) 5)).cell? ⟨wr.heap.size, k, none⟩ = some (.int .u8 0) := hc0
      have hf := hz.frozenAt k
      have hst2 := hz.stored k (bv 1)
      rw [row_set n k (fun _ => 0) (dl k) hlt 1 (fun j _ => by unfold dl; by_cases e : k = j <;> simp [e, eq_comm]; rfl) (by omega)] at hst2
      have HZ := Lib.hid hst2.1
      have HB : Hid (Below wr.heap.size wr ((wr.alloc (.cells (madeCells #[.int .u8 0] n) 5)).setCell ⟨wr.heap.size, k, none⟩ (bv 1))) := Lib.hid (((Below.refl _ _).alloc (Nat.le_refl _) _).setCell (by simp) _)
      have es : (wr.alloc (.cells (madeCells #[.int .u8 0] n) 5)).setCell ⟨wr.heap.size, k, none⟩ (bv 1) = wr.alloc (.cells ((madeCells #[.int .u8 0] n).setIfInBounds k (.int .u8 1)) 5) := set_alloc_drewN wr _ _ 0 k _
      rw [es] at HZ HB
      clear hz hc0 hst2 es
      go_wp2_with (at_builtin
                   refine wpl_row rfl (.tmp 22) (.tmp 24) rfl (hst.out.later HB.out).toMSt ?ln (.slice (some ⟨wr.heap.size, 0, none⟩) n n) (lrow n (dl k)) ?ow (lrow_byt _ _) rfl ?gx rfl ?_
                   case gx => simp
                   case ln => (rw [lmat_len]; omega)
                   case ow => (rw [lrow_len]; exact own_base HZ.out hst.out.bel.size)
                   intro v2 w2 hh)
      refine ⟨⟨k + 1, by omega, by go_num, Lib.hid ⟨?_, ?_⟩⟩, by simp [intOf]; omega⟩
      · rw [lmat_snoc]; exact hh.out.1
      · exact hh.out.2 _ _ _ (by decide) (hst.out.later HB.out).err
    · obtain rfl : k = n := by omega
      have hcE := hst.out.err.cell 0
      have hfE := hst.out.err.frozen 0
      have hEnd := hst.out.ends 0
      have HEnd := Lib.hid hEnd
      clear hEnd
      go_wp2
      have hx := HEnd.out.2
      refine leaves_cons (f := 31) (args := #[.pointer (some ⟨w.heap.size, 0, none⟩)]) (by simp) (by simp [go_sem]) ?_
      refine (refused_idle _ _).mono ?_
      rintro e u' w'' ⟨rfl, rfl, rfl⟩
      simp [Leaves, settle, results, Try.results11, go_sem, hx]
      exact ⟨_, rfl, HEnd.out.1⟩
end Go.Proofs.Ytebpaafofombaaa
