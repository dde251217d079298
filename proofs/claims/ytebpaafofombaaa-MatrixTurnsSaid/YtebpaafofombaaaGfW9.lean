/-
  The walks of Mix and of the reference's Mix.
-/
import Derived.Test.YtebpaafofombaaaGfW8
import Derived.Deep.OwnRows
import Derived.Deep.RegionLaw
namespace Go.Proofs.Ytebpaafofombaaa
open Go.RowKit GfMath
set_option linter.unusedVariables false
theorem own_of_rowIs {w : World} {g : Nat} {t : TypeId} {n base : Nat} {f : Nat → Value} (h : w.rowIs g t n f) (hb : base ≤ g) (hm : n ≤ maxLen) :
    w.ownsRow base t 1 (.slice (some ⟨g, 0, none⟩) n n) n ((List.range n).map f) := by
  obtain ⟨c, hc, hn, hf⟩ := h
  refine ⟨by simp, .inr ⟨g, n, c, rfl, hb, hc, Nat.le_refl _, hm, by omega, ?_⟩⟩
  rw [Nat.mul_one, List.take_of_length_le (by simp; omega)]
  apply List.ext_getElem?
  intro i
  by_cases hi : i < n
  · rw [Array.getElem?_toList, hf i hi, List.getElem?_map, List.getElem?_range hi]; rfl
  · rw [List.getElem?_eq_none (by simp; omega), List.getElem?_eq_none (by simp; omega)]
theorem rowIs_drewN {w : World} {b : Nat} {t : TypeId} {n : Nat} {f : Nat → Value} (h : w.rowIs b t n f) (k : Nat) : (w.drewN k).rowIs b t n f := h
theorem products_row (c : Nat) (hc : c < 256) (w : World) :
    Calls Try.prog 50 #[.int .u8 c] w fun e w' => e = .returned (.pointer (some ⟨w.heap.size, 0, none⟩)) ∧ w'.rowIs w.heap.size 89 256 (fun x => bv (gmul x c)) ∧ Below w.heap.size w w' ∧ w'.heap.size = w.heap.size + 1 := by
  refine (products_any c hc w).mono ?_
  rintro e w' ⟨rfl, d, rfl⟩
  have hs := rowT_size c 256
  refine ⟨rfl, rowIs_drewN ?_ d, bel_drewN ((Below.refl _ _).alloc (Nat.le_refl _) _) d, by simp⟩
  have := World.rowIs_alloc w (rowT c 256) 89 (fun x => bv (gmul x c)) (fun i hi => by rw [rowT_get _ _ _ (by omega), if_pos (by omega)])
  rwa [hs] at this
/-- What Mix's own row holds when the first k are made. -/
def mixF (out inn : List Nat) (c k : Nat) : Nat → Value := fun j => if j < k then bv ((mixl out inn c).getD j 0) else bv 0
theorem mixl_get (out inn : List Nat) (c k : Nat) (h1 : k < out.length) (h2 : k < inn.length) : (mixl out inn c).getD k 0 = out[k] ^^^ gmul inn[k] c := by
  unfold mixl
  rw [List.getD_eq_getElem?_getD, List.getElem?_zipWith]
  simp [h1, h2]
theorem mixF_step (out inn : List Nat) (c k j : Nat) : (if j = k then bv ((mixl out inn c).getD k 0) else mixF out inn c k j) = mixF out inn c (k + 1) j := by
  unfold mixF
  by_cases e : j = k
  · subst e; rw [if_pos rfl, if_pos (by omega)]
  · rw [if_neg e]
    by_cases h : j < k
    · rw [if_pos h, if_pos (by omega)]
    · rw [if_neg h, if_neg (by omega)]
theorem mixF_all (out inn : List Nat) (c : Nat) (h : out.length = inn.length) : (List.range out.length).map (mixF out inn c out.length) = (mixl out inn c).map bv := by
  apply List.ext_getElem?
  intro j
  have hl : (mixl out inn c).length = out.length := by simp [mixl, h]
  by_cases hj : j < out.length
  · rw [List.getElem?_map, List.getElem?_range hj, List.getElem?_map, List.getElem?_eq_getElem (by omega)]
    simp [mixF, hj, List.getD, List.getElem?_eq_getElem (show j < (mixl out inn c).length by omega)]
  · rw [List.getElem?_eq_none (by simp; omega), List.getElem?_eq_none (by simp; omega)]
def MixRel (w : World) (out inn : List Nat) (c k : Nat) (wr : World) : Prop :=
  wr.rowIs w.heap.size 89 256 (fun x => bv (gmul x c)) ∧ wr.rowIs (w.heap.size + 1) 5 out.length (mixF out inn c k) ∧ Below w.heap.size w wr
/-- Mix's answer. -/
def RetM (v : Value → Prop) (code : Int) (w : World) (e : Ending) (w' : World) : Prop := ∃ x, e = .returned (.tuple #[x, .int .i64 code]) ∧ v x
set_option maxRecDepth 100000 in
set_option maxHeartbeats 1000000 in
theorem mix_ok (A B : Option Addr) (cap cap' n : Nat) (xs ys : List Nat) (c : Nat) (w : World) (hx : Byt xs) (hy : Byt ys) (hc : c < 256) (hn : xs.length = n) (hn' : ys.length = n)
    (hr : Reads w w.heap.size 1 A n (xs.map bv)) (hr' : Reads w w.heap.size 1 B n (ys.map bv)) (hm : n ≤ 140737488351232) :
    Calls Try.prog 44 #[.slice A n cap, .slice B n cap', .int .u8 c] w fun e w' => ∃ v, e = .returned (.tuple #[v, .int .i64 0]) ∧ w'.ownsRow w.heap.size 5 1 v n ((mixl xs ys c).map bv) ∧ Below w.heap.size w w' := by
  have hmk := run_make_row' (P := Try.prog) 22 5 (.int .u8 0) 1 Try.underlying22 Try.info5 rfl .i64 .i64 n (by omega) (by omega)
  go_enter Try.func44, Try.ntmps44
  go_wp2_with (go_at_call 50; refine (products_row c hc _).mono ?_; rintro e w1 ⟨rfl, hrow, hb1, hs1⟩)
  clear hmk
  have hst : MixRel w xs ys c 0 (w1.alloc (.cells (madeCells #[.int .u8 0] n) 5)) := by
    refine ⟨hrow.alloc _, ?_, hb1.alloc (by omega) _⟩
    have := World.rowIs_made w1 (.int .u8 0) n 5
    rw [hs1] at this
    rw [hn]
    exact this.congr fun i _ => by unfold mixF; rw [if_neg (by omega)]; rfl
  clear hrow hb1
  obtain ⟨w2, hw2⟩ : ∃ w2, w1.alloc (.cells (madeCells #[.int .u8 0] n) 5) = w2 := ⟨_, rfl⟩
  rw [hw2] at hst ⊢
  clear hw2 hs1
  go_loopw [24] (fun vi wr => ∃ k : Nat, k ≤ n ∧ vi = .int .i64 k ∧ MixRel w xs ys c k wr) (fun vi _ => n - (intOf vi).toNat)
  case atStart => exact ⟨0, by omega, rfl, hst⟩
  case round =>
    obtain ⟨k, hk, rfl, hR1, hR2, hR3⟩ := hrel
    clear hst
    by_cases hlt : k < n
    · obtain ⟨ad, rfl, hbl, hc1⟩ := hr.byte (k := k) (by omega)
      obtain ⟨ad2, rfl, hbl2, hc2⟩ := hr'.byte (k := k) (by omega)
      have l1 := hx.get (k := k) (by omega)
      have l2 := hy.get (k := k) (by omega)
      have f1 : wr.cell? (ad.add k) = some (.int .u8 (xs[k] : Nat)) := by rw [hR3.cell (by rw [block_of_add]; exact hbl)]; exact hc1
      have f2 : wr.cell? (ad2.add k) = some (.int .u8 (ys[k] : Nat)) := by rw [hR3.cell (by rw [block_of_add]; exact hbl2)]; exact hc2
      have f3 : wr.cell? ⟨w.heap.size, ys[k], none⟩ = some (.int .u8 (gmul ys[k] c : Nat)) := hR1.cell l2
      have f4 := hR2.cell (i := k) (by omega)
      have f5 := hR2.frozen k
      have l3 : gmul ys[k] c < 256 := gmul_lt l2
      have x1 := xor8 xs[k] (gmul ys[k] c) l1 l3
      have hg := Lib.hid (mixl_get xs ys c k (by omega) (by omega))
      have H1 := Lib.hid hR1
      have H2 := Lib.hid hR2
      clear hc1 hc2 hr hr' hR1 hR2
      go_wp2
      go_region
      go_wp2
      refine ⟨⟨k + 1, by omega, by go_num, (H1.out.setOther (by simp) _).drew, ?_, (hR3.setCell (by simp) _).drew⟩, by simp [intOf]; omega⟩
      have h2 := (H2.out.set k (bv ((mixl xs ys c).getD k 0))).congr fun j _ => mixF_step xs ys c k j
      rw [hg.out] at h2
      exact h2.drew
    · obtain rfl : k = n := by omega
      go_wp2
      go_ret2
      have e := mixF_all xs ys c (by omega)
      rw [hn] at hR2 e
      exact ⟨_, rfl, by rw [← e]; exact own_of_rowIs hR2 (by omega) (by unfold maxLen; omega), hR3⟩
set_option maxRecDepth 100000 in
set_option maxHeartbeats 1000000 in
theorem mix_bad (A B : Option Addr) (cap cap' n m : Nat) (c : Nat) (w : World) (hne : n ≠ m) (hn : n ≤ maxLen) (hm : m ≤ maxLen) :
    Calls Try.prog 44 #[.slice A n cap, .slice B m cap', .int .u8 c] w fun e w' => e = .returned (.tuple #[.slice none 0 0, .int .i64 2]) ∧ w = w' := by
  have h : (((n : Nat) : Int) != ((m : Nat) : Int)) = true := by rw [bne_iff_ne]; omega
  go_enter Try.func44, Try.ntmps44
  go_wp2
  go_ret2
  exact ⟨rfl, rfl⟩
theorem mixl_take (out inn : List Nat) (c k : Nat) (h1 : k < out.length) (h2 : k < inn.length) : (mixl out inn c).take (k + 1) = (mixl out inn c).take k ++ [out[k] ^^^ gmul inn[k] c] := by
  have hl : k < (mixl out inn c).length := by simp [mixl]; omega
  rw [List.take_succ_eq_append_getElem hl]
  congr 2
  have := mixl_get out inn c k h1 h2
  rw [List.getD_eq_getElem?_getD, List.getElem?_eq_getElem hl] at this
  simpa using this
def RMixRel (w : World) (xs ys : List Nat) (c k : Nat) (v : Value) (wr : World) : Prop :=
  wr.ownsRow w.heap.size 5 1 v k (((mixl xs ys c).take k).map bv) ∧ Below w.heap.size w wr
end Go.Proofs.Ytebpaafofombaaa
