/-
  Pick, whatever comes; matrices that come in; MatrixMakes walked.
-/
import Derived.Test.YtebpaafofombaaaMxR4
import Derived.Deep.Slices
namespace Go.Proofs.Ytebpaafofombaaa
open Go.RowKit GfMath MxMath
set_option linter.unusedVariables false
set_option maxRecDepth 100000 in
set_option maxHeartbeats 1000000 in
theorem pick_refused (A : Option Addr) (ca r : Nat) (v : Value) (ls : List (List Nat)) (w : World) (HA : Hid (InM w A ca ls)) (hr : ls.length = r) (hg : ¬ ∃ n, Good ls n) :
    Calls Try.prog 19 #[.slice A r ca, v] w (RetNone 20 w) := by
  subst hr
  have HG := Lib.hid hg
  clear hg
  have hB := Blk.new w 26 #[.int .i64 0]
  have hb := (Below.refl w.heap.size w).alloc (Nat.le_refl _) (.cells #[.int .i64 0] 26)
  have HB := Lib.hid hb
  have HA1 := Lib.hid (HA.out.later hb)
  clear hb
  have hcE := hB.cell 0
  have hfE := hB.frozen 0
  go_enter_defers Try.func19, Try.ntmps19
  go_wp2_with (go_at_call 33; refine (sized_bad _ _ ls _ HA1 HG.out).mono ?_; rintro e w1 ⟨rfl, rfl⟩)
  refine leaves_cons (f := 31) (args := #[.pointer (some ⟨w.heap.size, 0, none⟩)]) (by simp) (by simp [go_sem]) ?_
  refine (refused_panicking _ _ _ _ _ hcE hfE).mono ?_
  rintro e u' w'' ⟨rfl, rfl, rfl⟩
  simp [Leaves, settle, results, Try.results19, go_sem]
  exact ⟨rfl, (Below.refl _ _).alloc (Nat.le_refl _) _⟩
set_option maxRecDepth 100000 in
set_option maxHeartbeats 1000000 in
theorem pick_many (A B : Option Addr) (ca cb r n m : Nat) (M : Mat) (w : World) (HA : Hid (InM w A ca (lmat r n M))) (r0 : 0 < r) (r1 : r ≤ 255) (n0 : 0 < n) (n1 : n ≤ 255) (hm : m = 0 ∨ 255 < m) :
    Calls Try.prog 19 #[.slice A r ca, .slice B m cb] w (RetNone 2 w) := by
  have hB := Blk.new w 26 #[.int .i64 0]
  have hb := (Below.refl w.heap.size w).alloc (Nat.le_refl _) (.cells #[.int .i64 0] 26)
  have HA1 := Lib.hid (HA.out.later hb)
  clear hb
  have hcE := hB.cell 0
  have hfE := hB.frozen 0
  rcases hm with h0 | h0
  · subst h0
    go_enter_defers Try.func19, Try.ntmps19
    go_wp2_with (first
      | (go_at_call 32; refine (needs_bad _).mono ?_; rintro e w1 ⟨rfl, rfl⟩)
      | (go_at_call 33; refine (sized_mat _ _ _ _ _ _ HA1 (by assumption) (by assumption) (by assumption) (by assumption)).mono ?_; rintro e w1 ⟨rfl, rfl⟩))
    refine leaves_cons (f := 31) (args := #[.pointer (some ⟨w.heap.size, 0, none⟩)]) (by simp) (by simp [go_sem]) ?_
    refine (refused_panicking _ _ _ _ _ hcE hfE).mono ?_
    rintro e u' w'' ⟨rfl, rfl, rfl⟩
    simp [Leaves, settle, results, Try.results19, go_sem]
    exact ⟨rfl, (Below.refl _ _).alloc (Nat.le_refl _) _⟩
  · have e1 : 0 < m := by omega
    have e2 : decide ((m : Int) ≤ 255) = false := decide_eq_false (by omega)
    go_enter_defers Try.func19, Try.ntmps19
    go_wp2_with (first
      | (go_at_call 32; refine (needs_bad _).mono ?_; rintro e w1 ⟨rfl, rfl⟩)
      | (go_at_call 33; refine (sized_mat _ _ _ _ _ _ HA1 (by assumption) (by assumption) (by assumption) (by assumption)).mono ?_; rintro e w1 ⟨rfl, rfl⟩))
    refine leaves_cons (f := 31) (args := #[.pointer (some ⟨w.heap.size, 0, none⟩)]) (by simp) (by simp [go_sem]) ?_
    refine (refused_panicking _ _ _ _ _ hcE hfE).mono ?_
    rintro e u' w'' ⟨rfl, rfl, rfl⟩
    simp [Leaves, settle, results, Try.results19, go_sem]
    exact ⟨rfl, (Below.refl _ _).alloc (Nat.le_refl _) _⟩
set_option maxRecDepth 100000 in
set_option maxHeartbeats 1000000 in
theorem rpick_refused (A : Option Addr) (ca r : Nat) (v : Value) (ls : List (List Nat)) (w : World) (HA : Hid (InM w A ca ls)) (hr : ls.length = r) (hg : ¬ ∃ n, Good ls n) :
    Calls Try.prog 20 #[.slice A r ca, v] w (RetNone 20 w) := by
  subst hr
  have HCK := Lib.hid (rcheck_bad A ca ls w HA hg)
  clear hg
  go_enter Try.func20, Try.ntmps20
  go_wp2_with (go_at_call 26; refine (HCK.out).mono ?_; rintro e w1 ⟨rfl, hb⟩; have HB := Lib.hid hb; clear hb)
  go_ret2
  exact ⟨rfl, HB.out⟩
set_option maxRecDepth 100000 in
set_option maxHeartbeats 1000000 in
theorem rpick_many (A B : Option Addr) (ca cb r n m : Nat) (M : Mat) (w : World) (HA : Hid (InM w A ca (lmat r n M))) (r0 : 0 < r) (r1 : r ≤ 255) (n0 : 0 < n) (n1 : n ≤ 255) (hm : m = 0 ∨ 255 < m) (hmx : m ≤ maxLen) :
    Calls Try.prog 20 #[.slice A r ca, .slice B m cb] w (RetNone 2 w) := by
  have HCK := Lib.hid (rcheck_ok A ca n (lmat r n M) w HA (lmat_good M r0 r1 n0 n1))
  rw [lmat_len] at HCK
  unfold maxLen at hmx
  rcases hm with h0 | h0
  · subst h0
    go_enter Try.func20, Try.ntmps20
    go_wp2_with (go_at_call 26; refine (HCK.out).mono ?_; rintro e w1 ⟨rfl, hb⟩; have HB := Lib.hid hb; clear hb)
    go_ret2
    exact ⟨rfl, HB.out⟩
  · go_enter Try.func20, Try.ntmps20
    go_wp2_with (go_at_call 26; refine (HCK.out).mono ?_; rintro e w1 ⟨rfl, hb⟩; have HB := Lib.hid hb; clear hb)
    go_ret2
    exact ⟨rfl, HB.out⟩
/-- A good list of rows, as a matrix. -/
def matOf (ls : List (List Nat)) : Mat := fun i => col (ls.getD i [])
theorem good_mat {ls : List (List Nat)} {n : Nat} (h : Good ls n) (hb : ∀ l ∈ ls, Byt l) : ls = lmat ls.length n (matOf ls) := by
  apply List.ext_getElem?
  intro i
  rcases Nat.lt_or_ge i ls.length with hi | hi
  · have e : ls[i] = ls.getD i [] := by rw [List.getD_eq_getElem?_getD, List.getElem?_eq_getElem hi]; rfl
    rw [lmat_get _ hi, List.getElem?_eq_getElem hi, e]
    show some (ls.getD i []) = some (lrow n (col (ls.getD i [])))
    rw [lrow_col (by rw [← e]; exact hb _ (List.getElem_mem hi)) (h.all i hi)]
  · rw [List.getElem?_eq_none hi, List.getElem?_eq_none (by rw [lmat_len]; exact hi)]
theorem InM.byt {w : World} {A : Option Addr} {cap : Nat} {ls : List (List Nat)} (h : InM w A cap ls) : ∀ l ∈ ls, Byt l := by
  intro l hl
  obtain ⟨i, hi, rfl⟩ := List.mem_iff_getElem.1 hl
  obtain ⟨_, _, _, _, _, _, _, _, hb⟩ := h.row hi
  rw [List.getD_eq_getElem?_getD, List.getElem?_eq_getElem hi] at hb
  exact hb
/-- Both Picks answer the same. -/
theorem picks (ls : List (List Nat)) (ca m cb : Nat) (zs : List Int) (hm : zs.length = m) (hmx : m ≤ maxLen) (hby : ∀ l ∈ ls, Byt l) :
    ∃ ks code, ∀ (A B : Option Addr) (w : World), Hid (InM w A ca ls) → Hid (Reads w w.heap.size 1 B m (zs.map (Value.int .i64))) →
      Calls Try.prog 19 #[.slice A ls.length ca, .slice B m cb] w (RetMM ks code w) ∧ Calls Try.prog 20 #[.slice A ls.length ca, .slice B m cb] w (RetMM ks code w) := by
  by_cases hg : ∃ n, Good ls n
  · obtain ⟨n, hg⟩ := hg
    have e := good_mat hg hby
    obtain ⟨r0, r1, n0, n1, -⟩ := hg
    obtain ⟨r, hr⟩ : ∃ r, ls.length = r := ⟨_, rfl⟩
    rw [hr] at r0 r1 e ⊢
    by_cases h : m = 0 ∨ 255 < m
    · exact ⟨[], 2, fun A B w HA HB => by rw [e] at HA; exact ⟨(pick_many A B ca cb r n m _ w HA r0 r1 n0 n1 h).mono fun e w' k => none_mm k, (rpick_many A B ca cb r n m _ w HA r0 r1 n0 n1 h hmx).mono fun e w' k => none_mm k⟩⟩
    · by_cases ho : rowsOk zs m r
      · refine ⟨lmat m n (pickM (matOf ls) zs), 0, fun A B w HA HB => ?_⟩
        rw [e] at HA
        have h1 := pick_z A B ca cb r n m (matOf ls) zs w HA HB r0 r1 n0 n1 (by omega) (by omega)
        have h2 := rpick_z A B ca cb r n m (matOf ls) zs w HA HB r0 r1 n0 n1 (by omega) (by omega)
        exact ⟨h1.mono fun e w' k => by rcases k with ⟨_, k⟩ | ⟨k, _⟩; exact k; exact absurd ho k, h2.mono fun e w' k => by rcases k with ⟨_, k⟩ | ⟨k, _⟩; exact k; exact absurd ho k⟩
      · refine ⟨[], 2, fun A B w HA HB => ?_⟩
        rw [e] at HA
        have h1 := pick_z A B ca cb r n m (matOf ls) zs w HA HB r0 r1 n0 n1 (by omega) (by omega)
        have h2 := rpick_z A B ca cb r n m (matOf ls) zs w HA HB r0 r1 n0 n1 (by omega) (by omega)
        exact ⟨h1.mono fun e w' k => by rcases k with ⟨k, _⟩ | ⟨_, k⟩; exact absurd k ho; exact none_mm k, h2.mono fun e w' k => by rcases k with ⟨k, _⟩ | ⟨_, k⟩; exact absurd k ho; exact none_mm k⟩
  · exact ⟨[], 20, fun A B w HA HB => ⟨(pick_refused A ca _ _ ls w HA rfl hg).mono fun e w' k => none_mm k, (rpick_refused A ca _ _ ls w HA rfl hg).mono fun e w' k => none_mm k⟩⟩
section
open Go.WideShapes Go.ChangeShapes Go.Deep
variable {H : Type} {enc : TypeId × Value → H} {w : World} {base : Nat} {sp : Nat → Bool} {held : Bool}
theorem trod_one {P : Program} {t : TypeId} {v : Value} {fuel : Nat} {x : DataW H × List MemPlace} (hv : v.cells.toList = [v]) (h : DataW.trod enc P w base sp held fuel t [v] = some x) : DataW.Trod enc P w base sp held t v x.1 x.2 := ⟨fuel, by rw [hv]; exact h⟩
/-- A matrix that comes in. -/
theorem open_mat {v : Value} {d : DataW H} {p : List MemPlace} (hv : v.cells.toList = [v]) (h : DataW.Trod enc Try.prog w base sp held 24 v d p) :
    ∃ A cap ls, v = .slice A ls.length cap ∧ InM w A cap ls := by
  obtain ⟨fuel, hf⟩ := h
  rw [hv] at hf
  rcases open_slice Try.underlying24 hf with ⟨e, _⟩ | ⟨a, len, cap, m, n, D, Pl, e, hb, hl, hm, hmm, hx, hi⟩
  · injection e with e
    exact ⟨none, 0, [], e, by simp, by unfold maxLen; omega, [], Reads.none_, RowsIn.nil _⟩
  · injection e with e
    have hlm : len ≤ m := by rw [hmm]; split <;> omega
    have hrow : ∀ i, i < len → ∃ (B : Option Addr) (c : Nat) (l : List Nat), w.cell? (a.add i) = some (.slice B l.length c) ∧ l.length ≤ c ∧ c ≤ maxLen ∧ Reads w w.heap.size 1 B l.length (l.map bv) ∧ Byt l := by
      intro i hil
      obtain ⟨cs', hc, ht'⟩ := hi i (by omega)
      rw [show Try.prog.cellsOf 22 = 1 from by kernel_rfl, Nat.mul_one] at hc
      obtain ⟨_, hcl, hat⟩ := World.cells?_some hc
      obtain ⟨u, rfl⟩ : ∃ u, cs' = [u] := by
        match cs', hcl with
        | [u], _ => exact ⟨u, rfl⟩
      obtain ⟨B, k, c, rfl⟩ : ∃ B k c, u = .slice B k c := by
        rcases open_slice Try.underlying22 ht' with ⟨e, -⟩ | ⟨a, len, cap, m, n, D, Pl, e, -⟩ <;> injection e with e <;> exact ⟨_, _, _, e⟩
      obtain ⟨zs, hzs⟩ := open_in_ints Try.underlying22 Try.underlying5 (by kernel_rfl) (trod_one rfl ht')
      obtain ⟨l, h1, h2, h3, h4, h5⟩ := hzs.bytes
      subst h2
      have hc0 := hat 0 (by omega)
      rw [show (a.add i).add 0 = a.add i from by simp [Addr.add]] at hc0
      exact ⟨B, c, l, hc0, h4, h5, h3, h1⟩
    obtain ⟨ls, h1, h2⟩ : ∃ ls : List (List Nat), ls.length = len ∧ ∀ i (hi : i < ls.length), ∃ (B : Option Addr) (c : Nat), w.cell? (a.add i) = some (.slice B ls[i].length c) ∧ ls[i].length ≤ c ∧ c ≤ maxLen ∧ Reads w w.heap.size 1 B ls[i].length (ls[i].map bv) ∧ Byt ls[i] := by
      clear hx hi hmm hl hlm e
      induction len with
      | zero => exact ⟨[], rfl, fun i hi => absurd hi (by simp)⟩
      | succ len ih =>
        obtain ⟨ns, h1, h2⟩ := ih fun i hi => hrow i (by omega)
        obtain ⟨B, c, l, hs⟩ := hrow len (by omega)
        refine ⟨ns ++ [l], by simp [h1], fun i hi => ?_⟩
        by_cases hlt : i < ns.length
        · rw [List.getElem_append_left hlt]; exact h2 i hlt
        · obtain rfl : i = len := by simp at hi; omega
          rw [List.getElem_append_right (by omega)]
          simp only [h1, Nat.sub_self, List.getElem_cons_zero]
          exact ⟨B, c, hs⟩
    subst h1
    have hB : ∀ i, i < ls.length → ∃ v, w.cell? (a.add i) = some v ∧ ∃ B c, v = .slice B (ls.getD i []).length c ∧ (ls.getD i []).length ≤ c ∧ c ≤ maxLen ∧ Reads w w.heap.size 1 B (ls.getD i []).length ((ls.getD i []).map bv) ∧ Byt (ls.getD i []) := fun i hi => by
      obtain ⟨B, c, g1, g2⟩ := h2 i hi
      have e : ls.getD i [] = ls[i] := by rw [List.getD_eq_getElem?_getD, List.getElem?_eq_getElem hi]; rfl
      rw [e]
      exact ⟨_, g1, B, c, rfl, g2⟩
    refine ⟨some a, cap, ls, e, hl, hm, (List.range ls.length).map (fun i => (w.cell? (a.add i)).getD undef), ⟨by simp, fun hn => ⟨a, rfl, ?_, fun j u hu => ?_⟩⟩, by simp, fun i l hl' => ?_⟩
    · obtain ⟨v, g1, _⟩ := hB 0 hn
      have := World.block_lt_of_cell? _ _ g1
      rwa [block_of_add] at this
    · have hj : j < ls.length := by have := (List.getElem?_eq_some_iff.1 hu).1; simpa using this
      obtain ⟨v, g1, _⟩ := hB j hj
      rw [List.getElem?_map, List.getElem?_range hj] at hu
      injection hu with hu
      rw [← hu]; simp [g1]
    · obtain ⟨hi', rfl⟩ := List.getElem?_eq_some_iff.1 hl'
      obtain ⟨v, g1, B, c, rfl, g2⟩ := hB i hi'
      have e : ls.getD i [] = ls[i] := by rw [List.getD_eq_getElem?_getD, List.getElem?_eq_getElem hi']; rfl
      rw [e] at g1 g2
      exact ⟨B, c, by rw [List.getElem?_map, List.getElem?_range hi']; simp [g1], g2⟩
end
set_option maxRecDepth 100000 in
set_option maxHeartbeats 4000000 in
theorem makes_ok (W : World) (k n : Int) (hn : -9223372036854775808 ≤ n ∧ n ≤ 9223372036854775807) (A B : Option Addr) (ca m cb : Nat) (ls : List (List Nat)) (zs : List Int) (hA : InM W A ca ls) (hB : Reads W W.heap.size 1 B m (zs.map (Value.int .i64))) (hm : zs.length = m) (hmx : m ≤ maxLen) :
    Calls Try.prog 4 #[.int .i64 k, .int .i64 n, .slice A ls.length ca, .slice B m cb] W (Yes W) := by
  obtain ⟨l1, code1, -, -, h1⟩ := idents n hn
  obtain ⟨l2, code2, -, -, h2⟩ := gens k n
  obtain ⟨l3, code3, h3⟩ := picks ls ca m cb zs hm hmx hA.byt
  have HID := Lib.hid h1
  have HGEN := Lib.hid h2
  have HPK := Lib.hid h3
  have HA := Lib.hid hA
  have HB := Lib.hid hB
  have NB := Lib.hid (Below.refl W.heap.size W)
  obtain ⟨r, hr⟩ : ∃ r, ls.length = r := ⟨_, rfl⟩
  rw [hr] at HPK ⊢
  have tk1 : True := trivial
  have tk2 : True := trivial
  clear h1 h2 h3 hA hB hn hm hmx hr
  go_enter Try.func4, Try.ntmps4
  go_wp2_with (first
    | (go_at_call 11; refine (HID.out _).1.mono ?_; rintro e w1 ⟨va, rfl, hst⟩; have hb := hst.bel; obtain ⟨Aa, ca, rfl, hi⟩ := hst.own.slice; have HA := Lib.hid (HA.out.later hb); have HB := Lib.hid (HB.out.later hb); have Ia := Lib.hid hi; have NB := Lib.hid (bel_trans NB.out (hb)); clear hst hi hb)
    | (go_at_call 16; refine (HID.out _).2.mono ?_; rintro e w2 ⟨vb, rfl, hst⟩; have hb := hst.bel; obtain ⟨Ab, cb, rfl, hi⟩ := hst.own.slice; have HA := Lib.hid (HA.out.later hb); have HB := Lib.hid (HB.out.later hb); have Ia := Lib.hid (Ia.out.later hb); have Ib := Lib.hid hi; have NB := Lib.hid (bel_trans NB.out (hb)); clear hst hi hb)
    | (go_at_call 17; refine (HGEN.out _).1.mono ?_; rintro e w3 ⟨vc, rfl, hst⟩; have hb := hst.bel; obtain ⟨Ac, cc, rfl, hi⟩ := hst.own.slice; have HA := Lib.hid (HA.out.later hb); have HB := Lib.hid (HB.out.later hb); have Ia := Lib.hid (Ia.out.later hb); have Ib := Lib.hid (Ib.out.later hb); have Ic := Lib.hid hi; have NB := Lib.hid (bel_trans NB.out (hb)); clear hst hi hb)
    | (go_at_call 18; refine (HGEN.out _).2.mono ?_; rintro e w4 ⟨vd, rfl, hst⟩; have hb := hst.bel; obtain ⟨Ad, cd, rfl, hi⟩ := hst.own.slice; have HA := Lib.hid (HA.out.later hb); have HB := Lib.hid (HB.out.later hb); have Ia := Lib.hid (Ia.out.later hb); have Ib := Lib.hid (Ib.out.later hb); have Ic := Lib.hid (Ic.out.later hb); have Id := Lib.hid hi; have NB := Lib.hid (bel_trans NB.out (hb)); clear hst hi hb)
    | (go_at_call 19; refine (HPK.out _ _ _ HA HB).1.mono ?_; rintro e w5 ⟨ve, rfl, hst⟩; have hb := hst.bel; obtain ⟨Ae, ce, rfl, hi⟩ := hst.own.slice; have HA := Lib.hid (HA.out.later hb); have HB := Lib.hid (HB.out.later hb); have Ia := Lib.hid (Ia.out.later hb); have Ib := Lib.hid (Ib.out.later hb); have Ic := Lib.hid (Ic.out.later hb); have Id := Lib.hid (Id.out.later hb); have Ie := Lib.hid hi; have NB := Lib.hid (bel_trans NB.out (hb)); clear hst hi hb)
    | (go_at_call 20; refine (HPK.out _ _ _ HA HB).2.mono ?_; rintro e w6 ⟨vf, rfl, hst⟩; have hb := hst.bel; obtain ⟨Af, cf, rfl, hi⟩ := hst.own.slice; have HA := Lib.hid (HA.out.later hb); have HB := Lib.hid (HB.out.later hb); have Ia := Lib.hid (Ia.out.later hb); have Ib := Lib.hid (Ib.out.later hb); have Ic := Lib.hid (Ic.out.later hb); have Id := Lib.hid (Id.out.later hb); have Ie := Lib.hid (Ie.out.later hb); have If := Lib.hid hi; have NB := Lib.hid (bel_trans NB.out (hb)); clear hst hi hb)
    | (go_at_call 15; have _t := tk1; refine (samem_bel Aa Ab ca cb _ _ l1 l1 _ Ia Ib rfl rfl).mono ?_; rintro e w7 ⟨rfl, hb⟩; rw [same_true]; have Ic := Lib.hid (Ic.out.later hb); have Id := Lib.hid (Id.out.later hb); have Ie := Lib.hid (Ie.out.later hb); have If := Lib.hid (If.out.later hb); have NB := Lib.hid (bel_trans NB.out (hb)); clear hb tk1 _t)
    | (go_at_call 15; have _t := tk2; refine (samem_bel Ac Ad cc cd _ _ l2 l2 _ Ic Id rfl rfl).mono ?_; rintro e w8 ⟨rfl, hb⟩; rw [same_true]; have Ie := Lib.hid (Ie.out.later hb); have If := Lib.hid (If.out.later hb); have NB := Lib.hid (bel_trans NB.out (hb)); clear hb tk2 _t)
    | (go_at_call 15; refine (samem_bel Ae Af ce cf _ _ l3 l3 _ Ie If rfl rfl).mono ?_; rintro e w9 ⟨rfl, hb⟩; rw [same_true]; skip; have NB := Lib.hid (bel_trans NB.out (hb)); clear hb)
    | (go_at_call 9; refine (heads_true _).mono ?_; rintro e w10 ⟨rfl, hb⟩; have NB := Lib.hid (bel_trans NB.out (hb)); clear hb))
  go_ret
  exact ⟨rfl, NB.out⟩
end Go.Proofs.Ytebpaafofombaaa
