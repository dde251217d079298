/-
  ROWS AND MATRICES OF ELEMENTS as lists of bytes; scaled; times; copied.
-/
import Derived.Test.YtebpaafofombaaaMxW2
namespace Go.Proofs.Ytebpaafofombaaa
open Go.RowKit GfMath MxMath
set_option linter.unusedVariables false
def lrow (n : Nat) (f : Nat → El) : List Nat := (List.range n).map fun j => (f j).v
def lmat (r n : Nat) (M : Mat) : List (List Nat) := (List.range r).map fun i => lrow n (M i)
theorem lrow_len (n : Nat) (f : Nat → El) : (lrow n f).length = n := by simp [lrow]
theorem lmat_len (r n : Nat) (M : Mat) : (lmat r n M).length = r := by simp [lmat]
theorem lrow_byt (n : Nat) (f : Nat → El) : Byt (lrow n f) := by
  intro x hx
  obtain ⟨j, _, rfl⟩ := List.mem_map.1 hx
  exact (f j).lt
theorem lrow_get {n j : Nat} (f : Nat → El) (h : j < n) : (lrow n f)[j]? = some (f j).v := by
  unfold lrow
  rw [List.getElem?_map, List.getElem?_range h]; rfl
theorem lrow_getD {n j : Nat} (f : Nat → El) (h : j < n) : (lrow n f).getD j 0 = (f j).v := by rw [List.getD_eq_getElem?_getD, lrow_get f h]; rfl
theorem lmat_get {r n i : Nat} (M : Mat) (h : i < r) : (lmat r n M)[i]? = some (lrow n (M i)) := by
  unfold lmat
  rw [List.getElem?_map, List.getElem?_range h]; rfl
theorem lmat_getD {r n i : Nat} (M : Mat) (h : i < r) : (lmat r n M).getD i [] = lrow n (M i) := by rw [List.getD_eq_getElem?_getD, lmat_get M h]; rfl
theorem lrow_congr {n : Nat} {f g : Nat → El} (h : ∀ j, j < n → f j = g j) : lrow n f = lrow n g := by
  unfold lrow
  exact List.map_congr_left fun j hj => by rw [h j (List.mem_range.1 hj)]
theorem lmat_congr {r n : Nat} {M K : Mat} (h : ∀ i j, i < r → j < n → M i j = K i j) : lmat r n M = lmat r n K := by
  unfold lmat
  exact List.map_congr_left fun i hi => lrow_congr fun j hj => h i j (List.mem_range.1 hi) hj
theorem lrow_inj {n : Nat} {f g : Nat → El} (h : lrow n f = lrow n g) : ∀ j, j < n → f j = g j := fun j hj => by
  have := lrow_get f hj
  rw [h, lrow_get g hj] at this
  injection this with this
  exact El.ext' this.symm
theorem lrow_snoc (n : Nat) (f : Nat → El) : lrow (n + 1) f = lrow n f ++ [(f n).v] := by simp [lrow, List.range_succ]
theorem lmat_snoc (r n : Nat) (M : Mat) : lmat (r + 1) n M = lmat r n M ++ [lrow n (M r)] := by simp [lmat, List.range_succ]
theorem lmat_good {r n : Nat} (M : Mat) (r0 : 0 < r) (r1 : r ≤ 255) (n0 : 0 < n) (n1 : n ≤ 255) : Good (lmat r n M) n :=
  ⟨by rw [lmat_len]; exact r0, by rw [lmat_len]; exact r1, n0, n1, fun i hi => by rw [lmat_len] at hi; rw [lmat_getD M hi, lrow_len]⟩
theorem mixl_lrow (n : Nat) (f g : Nat → El) (c : El) : mixl (lrow n f) (lrow n g) c.v = lrow n (fun j => f j + g j * c) := by
  apply List.ext_getElem?
  intro j
  unfold mixl
  rw [List.getElem?_zipWith]
  by_cases h : j < n
  · rw [lrow_get f h, lrow_get g h, lrow_get _ h]; rfl
  · rw [List.getElem?_eq_none (by rw [lrow_len]; omega), List.getElem?_eq_none (by rw [lrow_len]; omega), List.getElem?_eq_none (by rw [lrow_len]; omega)]
theorem zeros_row (n : Nat) : (List.replicate n 0) = lrow n (fun _ => 0) := by
  apply List.ext_getElem?
  intro j
  by_cases h : j < n
  · rw [lrow_get _ h, List.getElem?_replicate_of_lt h]; rfl
  · rw [List.getElem?_eq_none (by simp; omega), List.getElem?_eq_none (by rw [lrow_len]; omega)]
/-- A new row of noughts. -/
theorem own_zeros (w : World) (n : Nat) (hm : n ≤ maxLen) : (w.alloc (.cells (madeCells #[.int .u8 0] n) 5)).ownsRow w.heap.size 5 1 (.slice (some ⟨w.heap.size, 0, none⟩) n n) n ((lrow n (fun _ => 0)).map bv) := by
  have h := own_of_rowIs (World.rowIs_made w (.int .u8 0) n 5) (Nat.le_refl _) hm
  have e : (List.range n).map (fun _ => Value.int .u8 0) = (lrow n (fun _ => 0)).map bv := by
    unfold lrow; rw [List.map_map]; rfl
  rwa [e] at h
section
variable {w : World} {cap r n : Nat} {A : Option Addr} {M : Mat}
theorem InM.mrow (h : InM w A cap (lmat r n M)) {i : Nat} (hi : i < r) : ∃ ad B c, A = some ad ∧ w.cell? (ad.add i) = some (.slice B n c) ∧ n ≤ c ∧ c ≤ maxLen ∧ Reads w w.heap.size 1 B n ((lrow n (M i)).map bv) := by
  have := h.row (i := i) (by rw [lmat_len]; exact hi)
  rw [lmat_getD M hi, lrow_len] at this
  obtain ⟨ad, B, c, h1, h2, h3, h4, h5, _⟩ := this
  exact ⟨ad, B, c, h1, h2, h3, h4, h5⟩
end
theorem Reads.elem {w : World} {B n : Nat} {A : Option Addr} {f : Nat → El} (h : Reads w B 1 A n ((lrow n f).map bv)) {j : Nat} (hj : j < n) : ∃ ad, A = some ad ∧ ad.block < B ∧ w.cell? (ad.add j) = some (.int .u8 (f j).v) := by
  obtain ⟨ad, e, hb, hc⟩ := h.byteD hj
  rw [lrow_getD f hj] at hc
  exact ⟨ad, e, hb, hc⟩
/-- A row that is answered. -/
def RetRow (n : Nat) (f : Nat → El) (w : World) (e : Ending) (w' : World) : Prop :=
  ∃ A cap, e = .returned (.slice A n cap) ∧ n ≤ cap ∧ cap ≤ maxLen ∧ w'.ownsRow w.heap.size 5 1 (.slice A n cap) n ((lrow n f).map bv) ∧ Below w.heap.size w w'
theorem mix_el (A B : Option Addr) (cap cap' n : Nat) (f g : Nat → El) (c : El) (w : World) (hr : Hid (Reads w w.heap.size 1 A n ((lrow n f).map bv))) (hr' : Hid (Reads w w.heap.size 1 B n ((lrow n g).map bv))) (hm : n ≤ 140737488351232) :
    Calls Try.prog 44 #[.slice A n cap, .slice B n cap', .int .u8 c.v] w fun e w' => ∃ C d, e = .returned (.tuple #[.slice C n d, .int .i64 0]) ∧ n ≤ d ∧ d ≤ maxLen ∧ w'.ownsRow w.heap.size 5 1 (.slice C n d) n ((lrow n (fun j => f j + g j * c)).map bv) ∧ Below w.heap.size w w' := by
  refine (mix_ok A B cap cap' n _ _ c.v w (lrow_byt n f) (lrow_byt n g) c.lt (lrow_len n f) (lrow_len n g) hr.out hr'.out hm).mono ?_
  rintro e w' ⟨v, rfl, ho, hb⟩
  rw [mixl_lrow] at ho
  obtain ⟨C, d, rfl, h1, h2⟩ := own_slice ho
  exact ⟨C, d, rfl, h1, h2, ho, hb⟩
set_option maxRecDepth 100000 in
theorem scaled_any (A : Option Addr) (cap n : Nat) (f : Nat → El) (c : El) (w : World) (hr : Hid (Reads w w.heap.size 1 A n ((lrow n f).map bv))) (hm : n ≤ 140737488351232) :
    Calls Try.prog 49 #[.slice A n cap, .int .u8 c.v] w (RetRow n (fun j => f j * c) w) := by
  have hmk := run_make_row' (P := Try.prog) 22 5 (.int .u8 0) 1 Try.underlying22 Try.info5 rfl .i64 .i64 n (by omega) (by omega)
  have hz := Lib.hid (Reads.of_own (own_zeros w n (by unfold maxLen; omega)))
  have hr2 := Lib.hid ((hr.out.alloc (Nat.le_refl _) (.cells (madeCells #[.int .u8 0] n) 5)).more (B' := (w.alloc (.cells (madeCells #[.int .u8 0] n) 5)).heap.size) (by simp))
  go_enter Try.func49, Try.ntmps49
  go_wp2_with (go_at_call 44; refine (mix_el _ _ _ _ n _ _ c _ hz hr2 hm).mono ?_; rintro e w1 ⟨C, d, rfl, h1, h2, ho, hb⟩; have HO := Lib.hid ho; have HB := Lib.hid hb; clear ho hb)
  go_ret
  refine ⟨C, d, rfl, h1, h2, ?_, ?_⟩
  · have := own_base HO.out (base' := w.heap.size) (by simp)
    rwa [lrow_congr (g := fun j => f j * c) (fun j _ => zadd _)] at this
  · exact ((Below.refl _ _).alloc (Nat.le_refl _) _).trans (HB.out.mono (by simp))
end Go.Proofs.Ytebpaafofombaaa
