/-
  MatrixGenerates holds for every two numbers and choice: every k rows of a generator have an inverse.
-/
import Derived.Test.YtebpaafofombaaaMxW20
namespace Go.Proofs.Ytebpaafofombaaa
open Go.RowKit GfMath MxMath
set_option linter.unusedVariables false
theorem Try.infoInt : (Try.prog.info? 3).map (fun i => (i.zero, i.size, i.bytes)) = some (some (.int .i64 0), 1, 8) := by kernel_rfl
/-- Numbers ahead of n, each once. -/
structure Perm_ (n : Nat) (p : Nat → Nat) : Prop where
  lt : ∀ i, i < n → p i < n
  inj : ∀ i j, i < n → j < n → i ≠ j → p i ≠ p j
theorem Perm_.one (n : Nat) : Perm_ n id := ⟨fun i h => h, fun i j _ _ h => h⟩
def swapf (i j : Nat) (p : Nat → Nat) : Nat → Nat := fun q => if q = j then p i else if q = i then p j else p q
theorem Perm_.swap {n i j : Nat} {p : Nat → Nat} (h : Perm_ n p) (hi : i < n) (hj : j < n) : Perm_ n (swapf i j p) := by
  refine ⟨fun q hq => ?_, fun a b ha hb hab => ?_⟩
  · unfold swapf
    split
    · exact h.lt _ hi
    · split
      · exact h.lt _ hj
      · exact h.lt _ hq
  · have key : ∀ q, q < n → ∃ s, s < n ∧ swapf i j p q = p s ∧ s = (if q = j then i else if q = i then j else q) := fun q hq => by
      unfold swapf
      by_cases e : q = j
      · exact ⟨i, hi, by simp [e], by simp [e]⟩
      · by_cases e2 : q = i
        · exact ⟨j, hj, by subst e2; simp [e], by subst e2; simp [e]⟩
        · exact ⟨q, hq, by simp [e, e2], by simp [e, e2]⟩
    obtain ⟨s, s1, s2, s3⟩ := key a ha
    obtain ⟨t, t1, t2, t3⟩ := key b hb
    rw [s2, t2]
    refine h.inj s t s1 t1 ?_
    rw [s3, t3]
    (repeat' split) <;> omega
def vals (n : Nat) (p : Nat → Nat) : List Value := ((List.range n).map p).map fun r => Value.int .i64 (r : Nat)
theorem vals_len (n : Nat) (p : Nat → Nat) : (vals n p).length = n := by simp [vals]
theorem vals_get {n i : Nat} (p : Nat → Nat) (h : i < n) : (vals n p)[i]? = some (.int .i64 (p i : Nat)) := by
  unfold vals
  rw [List.getElem?_map, List.getElem?_map, List.getElem?_range h]; rfl
theorem vals_snoc (n : Nat) (p : Nat → Nat) : vals (n + 1) p = vals n p ++ [.int .i64 (p n : Nat)] := by simp [vals, List.range_succ]
theorem vals_swap {n : Nat} (i j : Nat) (p : Nat → Nat) (hi : i < n) (hj : j < n) : ((vals n p).set i (.int .i64 (p j : Nat))).set j (.int .i64 (p i : Nat)) = vals n (swapf i j p) := by
  apply List.ext_getElem?
  intro q
  rw [List.getElem?_set, List.getElem?_set, List.length_set, vals_len]
  by_cases hq : q < n
  · rw [vals_get _ hq, vals_get _ hq]
    unfold swapf
    by_cases e : q = j
    · subst e; simp [hq]
    · by_cases e2 : q = i
      · subst e2; simp [hq, e, Ne.symm e]
      · simp [e, e2, Ne.symm e, Ne.symm e2]
  · have a1 : (vals n p)[q]? = none := List.getElem?_eq_none (by rw [vals_len]; omega)
    have a2 : (vals n (swapf i j p))[q]? = none := List.getElem?_eq_none (by rw [vals_len]; omega)
    rw [if_neg (by omega), if_neg (by omega), a1, a2]
structure PermSt (w1 : World) (g c n : Nat) (p : Nat → Nat) (wr : World) : Prop where
  own : wr.ownsRow w1.heap.size 3 1 (.slice (some ⟨g, 0, none⟩) n c) n (vals n p)
  bel : Below w1.heap.size w1 wr
  perm : Perm_ n p
theorem Reads.first' {w : World} {B n : Nat} {A : Option Addr} {xs : List Value} (h : Reads w B 1 A n xs) {k : Nat} (hk : k ≤ n) : Reads w B 1 A k (xs.take k) := by
  have hl : xs.length = n := by simpa using h.1
  refine ⟨by rw [List.length_take]; omega, fun h0 => ?_⟩
  obtain ⟨ad, rfl, hb, hc⟩ := h.2 (by omega)
  refine ⟨ad, rfl, hb, fun j u hu => hc j u ?_⟩
  rcases Nat.lt_or_ge j k with hj | hj
  · rw [List.getElem?_take_of_lt hj] at hu; exact hu
  · rw [List.getElem?_eq_none (by rw [List.length_take]; omega)] at hu; cases hu
theorem range_getD {k q : Nat} (p : Nat → Nat) (h : q < k) : ((List.range k).map p).getD q 0 = p q := by
  rw [List.getD_eq_getElem?_getD, List.getElem?_map, List.getElem?_range h]; rfl
theorem vals_first {w : World} {B n k : Nat} {A : Option Addr} {p : Nat → Nat} (h : Reads w B 1 A n (vals n p)) (hk : k ≤ n) : Reads w B 1 A k (vals k p) := by
  have := h.first' hk
  rwa [show (vals n p).take k = vals k p from by unfold vals; rw [← List.map_take, ← List.map_take, List.take_range, Nat.min_eq_left hk]] at this
set_option maxRecDepth 100000 in
set_option maxHeartbeats 1000000 in
theorem generates_else (C : Option Addr) (len cap : Nat) (a b : Int) (W : World) (h : a < 1 ∨ b < a ∨ 40 < b) : Calls Try.prog 7 #[.int .i64 a, .int .i64 b, .slice C len cap] W (Yes W) := by
  by_cases h1 : a < 1
  · go_enter Try.func7, Try.ntmps7
    go_wp2_with (go_at_call 9; refine (heads_true _).mono ?_; rintro e w1 ⟨rfl, hb⟩; have HB := Lib.hid hb; clear hb)
    go_ret
    exact ⟨rfl, HB.out⟩
  by_cases h2 : b < a
  · go_enter Try.func7, Try.ntmps7
    go_wp2_with (go_at_call 9; refine (heads_true _).mono ?_; rintro e w1 ⟨rfl, hb⟩; have HB := Lib.hid hb; clear hb)
    go_ret
    exact ⟨rfl, HB.out⟩
  · have h3 : 40 < b := by omega
    clear h
    go_enter Try.func7, Try.ntmps7
    go_wp2_with (go_at_call 9; refine (heads_true _).mono ?_; rintro e w1 ⟨rfl, hb⟩; have HB := Lib.hid hb; clear hb)
    go_ret
    exact ⟨rfl, HB.out⟩
set_option maxRecDepth 100000 in
set_option maxHeartbeats 4000000 in
theorem generates_ok (C : Option Addr) (len cap k n : Nat) (zs : List Int) (W : World) (hz : ∀ z ∈ zs, (Lit.int .i64 z).wf = true) (hl : zs.length = len) (HC : Hid (Reads W W.heap.size 1 C len (zs.map (.int .i64)))) (hm : len ≤ 9223372036854775807) (k0 : 0 < k) (hkn : k ≤ n) (n1 : n ≤ 40) :
    Calls Try.prog 7 #[.int .i64 k, .int .i64 n, .slice C len cap] W (Yes W) := by
  obtain ⟨i0, hi0, hz0, hz1, hz2⟩ := info_parts Try.infoInt
  have HL := Lib.hid hl
  have HZ := Lib.hid hz
  clear hl hz
  have e0 : ((n : Int) != (n : Int)) = false := by simp
  go_enter Try.func7, Try.ntmps7
  go_wp2_with (go_at_call 17; refine (generator_ok k n _ k0 hkn (by omega)).mono ?_; rintro e w1 ⟨v1, rfl, h1⟩; obtain ⟨A1, c1, rfl, i1⟩ := own_mat h1.own; have I1 := Lib.hid i1; have BB := Lib.hid h1.bel; clear h1 i1)
  go_loopw [9, 10] (fun vr vi wr => ∃ q : Nat, q ≤ n ∧ vi = .int .i64 q ∧ Hid (wr.ownsRow w1.heap.size 3 1 vr q (vals q id) ∧ Below w1.heap.size w1 wr)) (fun _ vi _ => n - (intOf vi).toNat)
  case atStart => exact ⟨0, by omega, rfl, Lib.hid ⟨⟨rfl, .inl ⟨rfl, rfl⟩⟩, Below.refl _ _⟩⟩
  case round =>
    obtain ⟨q, hq, rfl, hst⟩ := hrel
    by_cases hlt : q < n
    · have HS := Lib.hid (hst.out.2.size)
      go_wp2_with (at_builtin
                   refine wpl_append rfl (.tmp 50) (.tmp 52) _ rfl w1 w1.heap.size 3 (.int .i64 0) 1 8 Try.underlying35 Try.infoInt rfl (by decide) _ q (vals q id) rfl (hst.out.1.alloc _) (wr.heap.size + 1) (some ⟨wr.heap.size, 0, none⟩) 1 1 [.int .i64 (q : Nat)] rfl (Reads.lit1 _ _ _) ?one ?byt (by decide) ?bel ?base ?_
                   case one => (intro u hu; simp at hu; subst hu; rfl)
                   case byt => omega
                   case bel => exact hst.out.2.alloc HS.out _
                   case base => (have := HS.out; simp; omega)
                   intro v2 w2 hh)
      have HN : Hid (w2.ownsRow w1.heap.size 3 1 v2 (q + 1) (vals (q + 1) id) ∧ Below w1.heap.size w1 w2) := Lib.hid ⟨by rw [vals_snoc]; exact hh.out.1, hh.out.2.1⟩
      clear hh
      exact ⟨⟨q + 1, by omega, by go_num, HN⟩, by simp [intOf]; omega⟩
    · obtain rfl : q = n := by omega
      obtain ⟨g, c, rfl, g1, g2, g3, g4⟩ := own_form hst.out.1 (by omega)
      have HST : Hid (PermSt w1 g c q id wr) := Lib.hid ⟨hst.out.1, hst.out.2, Perm_.one q⟩
      clear hst g1 g2
      obtain ⟨n, rfl⟩ : ∃ n, n = q := ⟨_, rfl⟩
      obtain ⟨wo, rfl⟩ : ∃ wo : World, wo = wr := ⟨_, rfl⟩
      unfold maxLen at g4
      go_wp2
      go_loopw [11, 12] (fun vi _ wr => ∃ (i : Nat) (p : Nat → Nat), i ≤ k ∧ vi = .int .i64 i ∧ Hid (PermSt w1 g c n p wr)) (fun vi _ _ => k - (intOf vi).toNat)
      case atStart => exact ⟨0, id, by omega, rfl, HST⟩
      case round =>
        obtain ⟨i, p, hik', rfl, hst⟩ := hrel
        clear HST
        by_cases hik : i < k
        · have hin : i < n := by omega
          by_cases hil : i < len
          · obtain ⟨ca, u, rfl, _, hu, hcu⟩ := (HC.out.below (BB.out.trans (hst.out.bel.mono BB.out.size))).at_ hil
            obtain ⟨z, hzi⟩ : ∃ z, zs[i]? = some z := ⟨_, List.getElem?_eq_getElem (by rw [HL.out]; exact hil)⟩
            rw [List.getElem?_map, hzi] at hu
            simp only [Option.map_some, Option.some.injEq] at hu
            subst hu
            have hwz := HZ.out z (List.mem_of_getElem? hzi)
            have hzb : -9223372036854775808 ≤ z ∧ z ≤ 9223372036854775807 := by simpa [Lit.wf, IntKind.min, IntKind.max, IntKind.signed, IntKind.bits] using hwz
            obtain ⟨zb1, zb2⟩ := hzb
            clear hzi hwz
            by_cases hz0' : 0 ≤ z
            · obtain ⟨r, hr⟩ : ∃ r : Nat, z % ((n : Int) - (i : Int)) = (r : Int) := ⟨(z % ((n : Int) - (i : Int))).toNat, (Int.toNat_of_nonneg (Int.emod_nonneg _ (by omega))).symm⟩
              have hrl : r < n - i := by have := Int.emod_lt_of_pos z (show 0 < (n : Int) - (i : Int) by omega); omega
              go_wp2
              clear hcu
              obtain ⟨j, hj⟩ : ∃ j, j = i + r := ⟨_, rfl⟩
              rw [show (i : Int) + (r : Int) = (j : Int) from by omega]
              have hjn : j < n := by omega
              clear hj hr
              obtain ⟨ho, hbel, hpm⟩ := hst.out
              have u1 := ho.cellAt i (by omega)
              have u2 := ho.cellAt (j) (by omega)
              rw [vals_get _ hin] at u1
              rw [vals_get _ hjn] at u2
              have HO := Lib.hid ho
              have HBL := Lib.hid hbel
              have HPM := Lib.hid hpm
              clear ho hbel hpm hst
              refine wp_region_late (S0 := fun _ => True) (S := fun w' => w'.cell? ⟨g, i, none⟩ = some (.int .i64 (p i : Nat)) ∧ w'.cell? ⟨g, j, none⟩ = some (.int .i64 (p (j) : Nat))) 13 16 (by kernel_rfl) rfl ⟨trivial, u1, u2⟩ (fun wd hwd hH => ?_)
              have HO1 := Lib.hid (show wd.ownsRow w1.heap.size 3 1 (.slice (some ⟨g, 0, none⟩) n c) n (vals n p) from by rw [hwd]; exact HO.out.drew)
              have HBL1 := Lib.hid (show Below w1.heap.size w1 wd from by rw [hwd]; exact HBL.out.drew)
              clear hwd HO HBL u1 u2
              have HO2 := Lib.hid (HO1.out.stored i (.int .i64 (p (j) : Nat))).1
              have HO3 := Lib.hid (HO2.out.stored (j) (.int .i64 (p i : Nat))).1
              have glo := (HO1.out.lt g rfl).1
              have HBL3 := Lib.hid ((HBL1.out.setCell (p := ⟨g, i, none⟩) glo (.int .i64 (p (j) : Nat))).setCell (p := ⟨g, j, none⟩) glo (.int .i64 (p i : Nat)))
              clear glo
              have c1 := HO1.out.cellAt i (by omega)
              rw [vals_get _ hin] at c1
              have f1 := HO1.out.frozenAt i
              obtain ⟨x2, c2⟩ : ∃ x, (wd.setCell ⟨g, i, none⟩ (.int .i64 (p (j) : Nat))).cell? ⟨g, j, none⟩ = some x := ⟨_, (HO2.out.cellAt (j) (by omega)).trans (List.getElem?_eq_getElem (by simp [vals, hjn]))⟩
              have f2 := HO2.out.frozenAt (j)
              refine wpAnyT_stay 0 (v := ?_) rfl (by kernel_rfl) (fun _ _ _ h => h) (Or.inl ⟨by rfl, ?_⟩) ⟨hH.1, fun _ => hH.2⟩ ?_
              rotate_left
              · (intro wx hx; obtain _ := hx; go_simp <;> with_reducible rfl)
              try simp only [Act.put, List.setIfInBounds_toArray, List.set_cons_zero, List.set_cons_succ]
              refine wpAnyT_stay 1 (v := ?_) rfl (by kernel_rfl) (fun _ _ _ h => h) (Or.inl ⟨by rfl, ?_⟩) ⟨hH.1, fun _ => hH.2⟩ ?_
              rotate_left
              · (intro wx hx; obtain _ := hx; go_simp <;> with_reducible rfl)
              try simp only [Act.put, List.setIfInBounds_toArray, List.set_cons_zero, List.set_cons_succ]
              refine wpAnyT_stay 2 (v := ?_) rfl (by kernel_rfl) (fun _ _ _ h => h) (Or.inl ⟨by rfl, ?_⟩) ⟨hH.1, fun _ => hH.2⟩ ?_
              rotate_left
              · (intro wx hx; obtain _ := hx; go_simp <;> with_reducible rfl)
              try simp only [Act.put, List.setIfInBounds_toArray, List.set_cons_zero, List.set_cons_succ]
              refine wpAnyT_stay 3 (v := ?_) rfl (by kernel_rfl) (fun _ _ _ h => h) (Or.inl ⟨by rfl, ?_⟩) ⟨hH.1, fun _ => hH.2⟩ ?_
              rotate_left
              · (intro wx hx; obtain _ := hx; go_simp <;> with_reducible rfl)
              try simp only [Act.put, List.setIfInBounds_toArray, List.set_cons_zero, List.set_cons_succ]
              refine wpAnyT_stay 4 (v := ?_) rfl (by kernel_rfl) (fun _ _ _ h => h) (Or.inl ⟨by rfl, ?_⟩) ⟨hH.1, fun _ => hH.2⟩ ?_
              rotate_left
              · (intro wx hx; obtain _ := hx; go_simp <;> with_reducible rfl)
              try simp only [Act.put, List.setIfInBounds_toArray, List.set_cons_zero, List.set_cons_succ]
              refine wpAnyT_stay 5 (v := ?_) rfl (by kernel_rfl) (fun _ _ _ h => h) (Or.inl ⟨by rfl, ?_⟩) ⟨hH.1, fun _ => hH.2⟩ ?_
              rotate_left
              · (intro wx hx; obtain _ := hx; go_simp <;> with_reducible rfl)
              try simp only [Act.put, List.setIfInBounds_toArray, List.set_cons_zero, List.set_cons_succ]
              refine wpAnyT_stay 6 (v := ?_) rfl (by kernel_rfl) (fun _ _ _ h => h) (Or.inl ⟨by rfl, ?_⟩) ⟨hH.1, fun _ => hH.2⟩ ?_
              rotate_left
              · (intro wx hx; obtain _ := hx; go_simp <;> with_reducible rfl)
              try simp only [Act.put, List.setIfInBounds_toArray, List.set_cons_zero, List.set_cons_succ]
              refine wpAnyT_take 7 (v := ?_) rfl (by kernel_rfl) (fun _ _ _ h => h) (Or.inl ⟨by rfl, ?_⟩) hH ?_
              rotate_left
              · (intro wx hx; obtain ⟨_, _⟩ := hx; go_simp <;> with_reducible rfl)
              try simp only [Act.put, List.setIfInBounds_toArray, List.set_cons_zero, List.set_cons_succ]
              refine wpAnyT_stay 8 (v := ?_) rfl (by kernel_rfl) (fun _ _ _ h => h) (Or.inl ⟨by rfl, ?_⟩) ⟨hH.1, fun _ => hH.2⟩ ?_
              rotate_left
              · (intro wx hx; obtain _ := hx; go_simp <;> with_reducible rfl)
              try simp only [Act.put, List.setIfInBounds_toArray, List.set_cons_zero, List.set_cons_succ]
              refine wpAnyT_stay 9 (v := ?_) rfl (by kernel_rfl) (fun _ _ _ h => h) (Or.inl ⟨by rfl, ?_⟩) ⟨hH.1, fun _ => hH.2⟩ ?_
              rotate_left
              · (intro wx hx; obtain _ := hx; go_simp <;> with_reducible rfl)
              try simp only [Act.put, List.setIfInBounds_toArray, List.set_cons_zero, List.set_cons_succ]
              refine wpAnyT_stay 10 (v := ?_) rfl (by kernel_rfl) (fun _ _ _ h => h) (Or.inl ⟨by rfl, ?_⟩) ⟨hH.1, fun _ => hH.2⟩ ?_
              rotate_left
              · (intro wx hx; obtain _ := hx; go_simp <;> with_reducible rfl)
              try simp only [Act.put, List.setIfInBounds_toArray, List.set_cons_zero, List.set_cons_succ]
              refine wpAnyT_take 11 (v := ?_) rfl (by kernel_rfl) (fun _ _ _ h => h) (Or.inl ⟨by rfl, ?_⟩) hH ?_
              rotate_left
              · (intro wx hx; obtain ⟨_, _⟩ := hx; go_simp <;> with_reducible rfl)
              try simp only [Act.put, List.setIfInBounds_toArray, List.set_cons_zero, List.set_cons_succ]
              refine wpAnyT_stay 12 (v := ?_) rfl (by kernel_rfl) (fun _ _ _ h => h) (Or.inl ⟨by rfl, ?_⟩) ⟨hH.1, fun _ => hH.2⟩ ?_
              rotate_left
              · (intro wx hx; obtain _ := hx; go_simp <;> with_reducible rfl)
              try simp only [Act.put, List.setIfInBounds_toArray, List.set_cons_zero, List.set_cons_succ]
              refine wpAnyT_last 13 rfl (by kernel_rfl) (by decide) (fun K hK => ?_)
              go_simp
              refine hK.out _ _ ?_ (fun hH13 => ?_)
              · trivial
              clear hK K
              try simp only [Act.put, List.setIfInBounds_toArray, List.set_cons_zero, List.set_cons_succ]
              refine wpAnyT_stay 14 (v := ?_) rfl (by kernel_rfl) (fun _ _ _ h => h) (Or.inl ⟨by rfl, ?_⟩) ⟨hH13, fun h => absurd h (by decide)⟩ ?_
              rotate_left
              · (intro wx hx; obtain _ := hx; go_simp <;> with_reducible rfl)
              try simp only [Act.put, List.setIfInBounds_toArray, List.set_cons_zero, List.set_cons_succ]
              refine wpAnyT_last 15 rfl (by kernel_rfl) (by decide) (fun K hK => ?_)
              go_simp
              refine hK.out _ _ ?_ (fun hH15 => ?_)
              · trivial
              clear hK K
              try simp only [Act.put, List.setIfInBounds_toArray, List.set_cons_zero, List.set_cons_succ]
              refine wpAnyT_done (by kernel_rfl) ?_ _
              clear hH hH13 hH15 c1 f1 c2 f2 x2 HO1 HBL1 HO2
              obtain ⟨wq, hwq⟩ : ∃ wq, (wd.setCell ⟨g, i, none⟩ (.int .i64 (p (j) : Nat))).setCell ⟨g, j, none⟩ (.int .i64 (p i : Nat)) = wq := ⟨_, rfl⟩
              rw [hwq] at HO3 HBL3 ⊢
              clear hwq
              rw [vals_swap i (j) p hin hjn] at HO3
              have HN := Lib.hid (show PermSt w1 g c n (swapf i (j) p) wq from ⟨HO3.out, HBL3.out, HPM.out.swap hin hjn⟩)
              clear HO3 HBL3 HPM
              go_wp2
              exact ⟨⟨i + 1, _, by omega, by go_num, HN⟩, by simp [intOf]; omega⟩
            · have hz1' : z < 0 := by omega
              have hjn : i < n := hin
              go_wp2
              clear hcu
              obtain ⟨ho, hbel, hpm⟩ := hst.out
              have u1 := ho.cellAt i (by omega)
              have u2 := ho.cellAt (i) (by omega)
              rw [vals_get _ hin] at u1
              rw [vals_get _ hjn] at u2
              have HO := Lib.hid ho
              have HBL := Lib.hid hbel
              have HPM := Lib.hid hpm
              clear ho hbel hpm hst
              refine wp_region_late (S0 := fun _ => True) (S := fun w' => w'.cell? ⟨g, i, none⟩ = some (.int .i64 (p i : Nat)) ∧ w'.cell? ⟨g, i, none⟩ = some (.int .i64 (p (i) : Nat))) 13 16 (by kernel_rfl) rfl ⟨trivial, u1, u2⟩ (fun wd hwd hH => ?_)
              have HO1 := Lib.hid (show wd.ownsRow w1.heap.size 3 1 (.slice (some ⟨g, 0, none⟩) n c) n (vals n p) from by rw [hwd]; exact HO.out.drew)
              have HBL1 := Lib.hid (show Below w1.heap.size w1 wd from by rw [hwd]; exact HBL.out.drew)
              clear hwd HO HBL u1 u2
              have HO2 := Lib.hid (HO1.out.stored i (.int .i64 (p (i) : Nat))).1
              have HO3 := Lib.hid (HO2.out.stored (i) (.int .i64 (p i : Nat))).1
              have glo := (HO1.out.lt g rfl).1
              have HBL3 := Lib.hid ((HBL1.out.setCell (p := ⟨g, i, none⟩) glo (.int .i64 (p (i) : Nat))).setCell (p := ⟨g, i, none⟩) glo (.int .i64 (p i : Nat)))
              clear glo
              have c1 := HO1.out.cellAt i (by omega)
              rw [vals_get _ hin] at c1
              have f1 := HO1.out.frozenAt i
              obtain ⟨x2, c2⟩ : ∃ x, (wd.setCell ⟨g, i, none⟩ (.int .i64 (p (i) : Nat))).cell? ⟨g, i, none⟩ = some x := ⟨_, (HO2.out.cellAt (i) (by omega)).trans (List.getElem?_eq_getElem (by simp [vals, hjn]))⟩
              have f2 := HO2.out.frozenAt (i)
              refine wpAnyT_stay 0 (v := ?_) rfl (by kernel_rfl) (fun _ _ _ h => h) (Or.inl ⟨by rfl, ?_⟩) ⟨hH.1, fun _ => hH.2⟩ ?_
              rotate_left
              · (intro wx hx; obtain _ := hx; go_simp <;> with_reducible rfl)
              try simp only [Act.put, List.setIfInBounds_toArray, List.set_cons_zero, List.set_cons_succ]
              refine wpAnyT_stay 1 (v := ?_) rfl (by kernel_rfl) (fun _ _ _ h => h) (Or.inl ⟨by rfl, ?_⟩) ⟨hH.1, fun _ => hH.2⟩ ?_
              rotate_left
              · (intro wx hx; obtain _ := hx; go_simp <;> with_reducible rfl)
              try simp only [Act.put, List.setIfInBounds_toArray, List.set_cons_zero, List.set_cons_succ]
              refine wpAnyT_stay 2 (v := ?_) rfl (by kernel_rfl) (fun _ _ _ h => h) (Or.inl ⟨by rfl, ?_⟩) ⟨hH.1, fun _ => hH.2⟩ ?_
              rotate_left
              · (intro wx hx; obtain _ := hx; go_simp <;> with_reducible rfl)
              try simp only [Act.put, List.setIfInBounds_toArray, List.set_cons_zero, List.set_cons_succ]
              refine wpAnyT_stay 3 (v := ?_) rfl (by kernel_rfl) (fun _ _ _ h => h) (Or.inl ⟨by rfl, ?_⟩) ⟨hH.1, fun _ => hH.2⟩ ?_
              rotate_left
              · (intro wx hx; obtain _ := hx; go_simp <;> with_reducible rfl)
              try simp only [Act.put, List.setIfInBounds_toArray, List.set_cons_zero, List.set_cons_succ]
              refine wpAnyT_stay 4 (v := ?_) rfl (by kernel_rfl) (fun _ _ _ h => h) (Or.inl ⟨by rfl, ?_⟩) ⟨hH.1, fun _ => hH.2⟩ ?_
              rotate_left
              · (intro wx hx; obtain _ := hx; go_simp <;> with_reducible rfl)
              try simp only [Act.put, List.setIfInBounds_toArray, List.set_cons_zero, List.set_cons_succ]
              refine wpAnyT_stay 5 (v := ?_) rfl (by kernel_rfl) (fun _ _ _ h => h) (Or.inl ⟨by rfl, ?_⟩) ⟨hH.1, fun _ => hH.2⟩ ?_
              rotate_left
              · (intro wx hx; obtain _ := hx; go_simp <;> with_reducible rfl)
              try simp only [Act.put, List.setIfInBounds_toArray, List.set_cons_zero, List.set_cons_succ]
              refine wpAnyT_stay 6 (v := ?_) rfl (by kernel_rfl) (fun _ _ _ h => h) (Or.inl ⟨by rfl, ?_⟩) ⟨hH.1, fun _ => hH.2⟩ ?_
              rotate_left
              · (intro wx hx; obtain _ := hx; go_simp <;> with_reducible rfl)
              try simp only [Act.put, List.setIfInBounds_toArray, List.set_cons_zero, List.set_cons_succ]
              refine wpAnyT_take 7 (v := ?_) rfl (by kernel_rfl) (fun _ _ _ h => h) (Or.inl ⟨by rfl, ?_⟩) hH ?_
              rotate_left
              · (intro wx hx; obtain ⟨_, _⟩ := hx; go_simp <;> with_reducible rfl)
              try simp only [Act.put, List.setIfInBounds_toArray, List.set_cons_zero, List.set_cons_succ]
              refine wpAnyT_stay 8 (v := ?_) rfl (by kernel_rfl) (fun _ _ _ h => h) (Or.inl ⟨by rfl, ?_⟩) ⟨hH.1, fun _ => hH.2⟩ ?_
              rotate_left
              · (intro wx hx; obtain _ := hx; go_simp <;> with_reducible rfl)
              try simp only [Act.put, List.setIfInBounds_toArray, List.set_cons_zero, List.set_cons_succ]
              refine wpAnyT_stay 9 (v := ?_) rfl (by kernel_rfl) (fun _ _ _ h => h) (Or.inl ⟨by rfl, ?_⟩) ⟨hH.1, fun _ => hH.2⟩ ?_
              rotate_left
              · (intro wx hx; obtain _ := hx; go_simp <;> with_reducible rfl)
              try simp only [Act.put, List.setIfInBounds_toArray, List.set_cons_zero, List.set_cons_succ]
              refine wpAnyT_stay 10 (v := ?_) rfl (by kernel_rfl) (fun _ _ _ h => h) (Or.inl ⟨by rfl, ?_⟩) ⟨hH.1, fun _ => hH.2⟩ ?_
              rotate_left
              · (intro wx hx; obtain _ := hx; go_simp <;> with_reducible rfl)
              try simp only [Act.put, List.setIfInBounds_toArray, List.set_cons_zero, List.set_cons_succ]
              refine wpAnyT_take 11 (v := ?_) rfl (by kernel_rfl) (fun _ _ _ h => h) (Or.inl ⟨by rfl, ?_⟩) hH ?_
              rotate_left
              · (intro wx hx; obtain ⟨_, _⟩ := hx; go_simp <;> with_reducible rfl)
              try simp only [Act.put, List.setIfInBounds_toArray, List.set_cons_zero, List.set_cons_succ]
              refine wpAnyT_stay 12 (v := ?_) rfl (by kernel_rfl) (fun _ _ _ h => h) (Or.inl ⟨by rfl, ?_⟩) ⟨hH.1, fun _ => hH.2⟩ ?_
              rotate_left
              · (intro wx hx; obtain _ := hx; go_simp <;> with_reducible rfl)
              try simp only [Act.put, List.setIfInBounds_toArray, List.set_cons_zero, List.set_cons_succ]
              refine wpAnyT_last 13 rfl (by kernel_rfl) (by decide) (fun K hK => ?_)
              go_simp
              refine hK.out _ _ ?_ (fun hH13 => ?_)
              · trivial
              clear hK K
              try simp only [Act.put, List.setIfInBounds_toArray, List.set_cons_zero, List.set_cons_succ]
              refine wpAnyT_stay 14 (v := ?_) rfl (by kernel_rfl) (fun _ _ _ h => h) (Or.inl ⟨by rfl, ?_⟩) ⟨hH13, fun h => absurd h (by decide)⟩ ?_
              rotate_left
              · (intro wx hx; obtain _ := hx; go_simp <;> with_reducible rfl)
              try simp only [Act.put, List.setIfInBounds_toArray, List.set_cons_zero, List.set_cons_succ]
              refine wpAnyT_last 15 rfl (by kernel_rfl) (by decide) (fun K hK => ?_)
              go_simp
              refine hK.out _ _ ?_ (fun hH15 => ?_)
              · trivial
              clear hK K
              try simp only [Act.put, List.setIfInBounds_toArray, List.set_cons_zero, List.set_cons_succ]
              refine wpAnyT_done (by kernel_rfl) ?_ _
              clear hH hH13 hH15 c1 f1 c2 f2 x2 HO1 HBL1 HO2
              obtain ⟨wq, hwq⟩ : ∃ wq, (wd.setCell ⟨g, i, none⟩ (.int .i64 (p (i) : Nat))).setCell ⟨g, i, none⟩ (.int .i64 (p i : Nat)) = wq := ⟨_, rfl⟩
              rw [hwq] at HO3 HBL3 ⊢
              clear hwq
              rw [vals_swap i (i) p hin hjn] at HO3
              have HN := Lib.hid (show PermSt w1 g c n (swapf i (i) p) wq from ⟨HO3.out, HBL3.out, HPM.out.swap hin hjn⟩)
              clear HO3 HBL3 HPM
              go_wp2
              exact ⟨⟨i + 1, _, by omega, by go_num, HN⟩, by simp [intOf]; omega⟩
          · have hjn : i < n := hin
            go_wp2
            obtain ⟨ho, hbel, hpm⟩ := hst.out
            have u1 := ho.cellAt i (by omega)
            have u2 := ho.cellAt (i) (by omega)
            rw [vals_get _ hin] at u1
            rw [vals_get _ hjn] at u2
            have HO := Lib.hid ho
            have HBL := Lib.hid hbel
            have HPM := Lib.hid hpm
            clear ho hbel hpm hst
            refine wp_region_late (S0 := fun _ => True) (S := fun w' => w'.cell? ⟨g, i, none⟩ = some (.int .i64 (p i : Nat)) ∧ w'.cell? ⟨g, i, none⟩ = some (.int .i64 (p (i) : Nat))) 13 16 (by kernel_rfl) rfl ⟨trivial, u1, u2⟩ (fun wd hwd hH => ?_)
            have HO1 := Lib.hid (show wd.ownsRow w1.heap.size 3 1 (.slice (some ⟨g, 0, none⟩) n c) n (vals n p) from by rw [hwd]; exact HO.out.drew)
            have HBL1 := Lib.hid (show Below w1.heap.size w1 wd from by rw [hwd]; exact HBL.out.drew)
            clear hwd HO HBL u1 u2
            have HO2 := Lib.hid (HO1.out.stored i (.int .i64 (p (i) : Nat))).1
            have HO3 := Lib.hid (HO2.out.stored (i) (.int .i64 (p i : Nat))).1
            have glo := (HO1.out.lt g rfl).1
            have HBL3 := Lib.hid ((HBL1.out.setCell (p := ⟨g, i, none⟩) glo (.int .i64 (p (i) : Nat))).setCell (p := ⟨g, i, none⟩) glo (.int .i64 (p i : Nat)))
            clear glo
            have c1 := HO1.out.cellAt i (by omega)
            rw [vals_get _ hin] at c1
            have f1 := HO1.out.frozenAt i
            obtain ⟨x2, c2⟩ : ∃ x, (wd.setCell ⟨g, i, none⟩ (.int .i64 (p (i) : Nat))).cell? ⟨g, i, none⟩ = some x := ⟨_, (HO2.out.cellAt (i) (by omega)).trans (List.getElem?_eq_getElem (by simp [vals, hjn]))⟩
            have f2 := HO2.out.frozenAt (i)
            refine wpAnyT_stay 0 (v := ?_) rfl (by kernel_rfl) (fun _ _ _ h => h) (Or.inl ⟨by rfl, ?_⟩) ⟨hH.1, fun _ => hH.2⟩ ?_
            rotate_left
            · (intro wx hx; obtain _ := hx; go_simp <;> with_reducible rfl)
            try simp only [Act.put, List.setIfInBounds_toArray, List.set_cons_zero, List.set_cons_succ]
            refine wpAnyT_stay 1 (v := ?_) rfl (by kernel_rfl) (fun _ _ _ h => h) (Or.inl ⟨by rfl, ?_⟩) ⟨hH.1, fun _ => hH.2⟩ ?_
            rotate_left
            · (intro wx hx; obtain _ := hx; go_simp <;> with_reducible rfl)
            try simp only [Act.put, List.setIfInBounds_toArray, List.set_cons_zero, List.set_cons_succ]
            refine wpAnyT_stay 2 (v := ?_) rfl (by kernel_rfl) (fun _ _ _ h => h) (Or.inl ⟨by rfl, ?_⟩) ⟨hH.1, fun _ => hH.2⟩ ?_
            rotate_left
            · (intro wx hx; obtain _ := hx; go_simp <;> with_reducible rfl)
            try simp only [Act.put, List.setIfInBounds_toArray, List.set_cons_zero, List.set_cons_succ]
            refine wpAnyT_stay 3 (v := ?_) rfl (by kernel_rfl) (fun _ _ _ h => h) (Or.inl ⟨by rfl, ?_⟩) ⟨hH.1, fun _ => hH.2⟩ ?_
            rotate_left
            · (intro wx hx; obtain _ := hx; go_simp <;> with_reducible rfl)
            try simp only [Act.put, List.setIfInBounds_toArray, List.set_cons_zero, List.set_cons_succ]
            refine wpAnyT_stay 4 (v := ?_) rfl (by kernel_rfl) (fun _ _ _ h => h) (Or.inl ⟨by rfl, ?_⟩) ⟨hH.1, fun _ => hH.2⟩ ?_
            rotate_left
            · (intro wx hx; obtain _ := hx; go_simp <;> with_reducible rfl)
            try simp only [Act.put, List.setIfInBounds_toArray, List.set_cons_zero, List.set_cons_succ]
            refine wpAnyT_stay 5 (v := ?_) rfl (by kernel_rfl) (fun _ _ _ h => h) (Or.inl ⟨by rfl, ?_⟩) ⟨hH.1, fun _ => hH.2⟩ ?_
            rotate_left
            · (intro wx hx; obtain _ := hx; go_simp <;> with_reducible rfl)
            try simp only [Act.put, List.setIfInBounds_toArray, List.set_cons_zero, List.set_cons_succ]
            refine wpAnyT_stay 6 (v := ?_) rfl (by kernel_rfl) (fun _ _ _ h => h) (Or.inl ⟨by rfl, ?_⟩) ⟨hH.1, fun _ => hH.2⟩ ?_
            rotate_left
            · (intro wx hx; obtain _ := hx; go_simp <;> with_reducible rfl)
            try simp only [Act.put, List.setIfInBounds_toArray, List.set_cons_zero, List.set_cons_succ]
            refine wpAnyT_take 7 (v := ?_) rfl (by kernel_rfl) (fun _ _ _ h => h) (Or.inl ⟨by rfl, ?_⟩) hH ?_
            rotate_left
            · (intro wx hx; obtain ⟨_, _⟩ := hx; go_simp <;> with_reducible rfl)
            try simp only [Act.put, List.setIfInBounds_toArray, List.set_cons_zero, List.set_cons_succ]
            refine wpAnyT_stay 8 (v := ?_) rfl (by kernel_rfl) (fun _ _ _ h => h) (Or.inl ⟨by rfl, ?_⟩) ⟨hH.1, fun _ => hH.2⟩ ?_
            rotate_left
            · (intro wx hx; obtain _ := hx; go_simp <;> with_reducible rfl)
            try simp only [Act.put, List.setIfInBounds_toArray, List.set_cons_zero, List.set_cons_succ]
            refine wpAnyT_stay 9 (v := ?_) rfl (by kernel_rfl) (fun _ _ _ h => h) (Or.inl ⟨by rfl, ?_⟩) ⟨hH.1, fun _ => hH.2⟩ ?_
            rotate_left
            · (intro wx hx; obtain _ := hx; go_simp <;> with_reducible rfl)
            try simp only [Act.put, List.setIfInBounds_toArray, List.set_cons_zero, List.set_cons_succ]
            refine wpAnyT_stay 10 (v := ?_) rfl (by kernel_rfl) (fun _ _ _ h => h) (Or.inl ⟨by rfl, ?_⟩) ⟨hH.1, fun _ => hH.2⟩ ?_
            rotate_left
            · (intro wx hx; obtain _ := hx; go_simp <;> with_reducible rfl)
            try simp only [Act.put, List.setIfInBounds_toArray, List.set_cons_zero, List.set_cons_succ]
            refine wpAnyT_take 11 (v := ?_) rfl (by kernel_rfl) (fun _ _ _ h => h) (Or.inl ⟨by rfl, ?_⟩) hH ?_
            rotate_left
            · (intro wx hx; obtain ⟨_, _⟩ := hx; go_simp <;> with_reducible rfl)
            try simp only [Act.put, List.setIfInBounds_toArray, List.set_cons_zero, List.set_cons_succ]
            refine wpAnyT_stay 12 (v := ?_) rfl (by kernel_rfl) (fun _ _ _ h => h) (Or.inl ⟨by rfl, ?_⟩) ⟨hH.1, fun _ => hH.2⟩ ?_
            rotate_left
            · (intro wx hx; obtain _ := hx; go_simp <;> with_reducible rfl)
            try simp only [Act.put, List.setIfInBounds_toArray, List.set_cons_zero, List.set_cons_succ]
            refine wpAnyT_last 13 rfl (by kernel_rfl) (by decide) (fun K hK => ?_)
            go_simp
            refine hK.out _ _ ?_ (fun hH13 => ?_)
            · trivial
            clear hK K
            try simp only [Act.put, List.setIfInBounds_toArray, List.set_cons_zero, List.set_cons_succ]
            refine wpAnyT_stay 14 (v := ?_) rfl (by kernel_rfl) (fun _ _ _ h => h) (Or.inl ⟨by rfl, ?_⟩) ⟨hH13, fun h => absurd h (by decide)⟩ ?_
            rotate_left
            · (intro wx hx; obtain _ := hx; go_simp <;> with_reducible rfl)
            try simp only [Act.put, List.setIfInBounds_toArray, List.set_cons_zero, List.set_cons_succ]
            refine wpAnyT_last 15 rfl (by kernel_rfl) (by decide) (fun K hK => ?_)
            go_simp
            refine hK.out _ _ ?_ (fun hH15 => ?_)
            · trivial
            clear hK K
            try simp only [Act.put, List.setIfInBounds_toArray, List.set_cons_zero, List.set_cons_succ]
            refine wpAnyT_done (by kernel_rfl) ?_ _
            clear hH hH13 hH15 c1 f1 c2 f2 x2 HO1 HBL1 HO2
            obtain ⟨wq, hwq⟩ : ∃ wq, (wd.setCell ⟨g, i, none⟩ (.int .i64 (p (i) : Nat))).setCell ⟨g, i, none⟩ (.int .i64 (p i : Nat)) = wq := ⟨_, rfl⟩
            rw [hwq] at HO3 HBL3 ⊢
            clear hwq
            rw [vals_swap i (i) p hin hjn] at HO3
            have HN := Lib.hid (show PermSt w1 g c n (swapf i (i) p) wq from ⟨HO3.out, HBL3.out, HPM.out.swap hin hjn⟩)
            clear HO3 HBL3 HPM
            go_wp2
            exact ⟨⟨i + 1, _, by omega, by go_num, HN⟩, by simp [intOf]; omega⟩
        · obtain rfl : i = k := by omega
          have hsl : ∀ W : World, (Instr.sliceAt 35 (.slice (some ⟨g, 0, none⟩) n c) none (some (.int .i64 (i : Int))) none).run Try.prog W = .ok (.slice (some ⟨g, 0, none⟩) i c) W := fun W => slice_to Try.underlying35 hi0 hz1 (some ⟨g, 0, none⟩) n c i (by omega) W
          have I2 := Lib.hid (I1.out.later hst.out.bel)
          have IR := Lib.hid (vals_first (Reads.of_own hst.out.own) hkn)
          have B2 := Lib.hid (bel_trans BB.out hst.out.bel)
          have hfull := gen_full hkn (by omega) p (fun q hq => hst.out.perm.lt q (by omega)) (fun a b ha hb => hst.out.perm.inj a b (by omega) (by omega))
          have HF := Lib.hid hfull
          have HPR : Hid (∀ q, q < i → ((List.range i).map p).getD q 0 < n) := Lib.hid fun q hq => by rw [range_getD p hq]; exact hst.out.perm.lt q (by omega)
          have K1 : Hid (lmat i i (fun q => genM i (((List.range i).map p).getD q 0)) = lmat i i (fun q j => genM i (p q) j)) := Lib.hid (lmat_congr fun q j hq _ => by rw [range_getD p hq])
          clear hfull hst
          have hi1 : i ≤ 255 := by omega
          have e9 : ((i : Int) == (i : Int)) = true := by simp
          go_wp2_with (first
            | (go_at_call 19; refine (pick_ok _ _ _ _ n i i (genM i) ((List.range i).map p) _ I2 IR (by simp) HPR (by omega) (by omega) k0 hi1 k0 hi1).mono ?_; rintro e w3 ⟨v3, rfl, h3⟩; rw [K1.out] at h3; obtain ⟨A3, c3, rfl, i3⟩ := own_mat h3.own; have I3 := Lib.hid i3; have hb := h3.bel; clear h3 i3; have B2 := Lib.hid (bel_trans B2.out hb); clear hb)
            | (go_at_call 12; refine (invert_ok _ _ i _ _ I3 k0 hi1 HF.out).mono ?_; rintro e w4 ⟨v4, rfl, h4⟩; have hb := h4.bel; clear h4; have I3 := Lib.hid (I3.out.later hb); have B2 := Lib.hid (bel_trans B2.out hb); clear hb)
            | (go_at_call 13; refine (rank_any _ _ i i _ _ I3 k0 hi1 k0 hi1).mono ?_; rintro e w5 ⟨rfl, hb⟩; rw [HF.out]; have B2 := Lib.hid (bel_trans B2.out hb); clear hb)
            | (go_at_call 9; refine (heads_true _).mono ?_; rintro e w6 ⟨rfl, hb⟩; have B2 := Lib.hid (bel_trans B2.out hb); clear hb))
          go_ret
          exact ⟨rfl, B2.out⟩
theorem walk_MatrixGenerates (W : World) (a : Int) (wa : (Lit.int .i64 a).wf = true) (b : Int) (wb : (Lit.int .i64 b).wf = true) (C : Option Addr) (len cap : Nat) (z : List Int) (h : Ints .i64 W C len cap z) :
    Calls Try.prog 7 #[.int .i64 a, .int .i64 b, .slice C len cap] W (Yes W) := by
  obtain ⟨h1, h2, h3, h4, h5⟩ := h
  unfold maxLen at h5
  by_cases e : a < 1 ∨ b < a ∨ 40 < b
  · exact generates_else C len cap a b W e
  · obtain ⟨k, rfl⟩ : ∃ n : Nat, a = (n : Int) := ⟨a.toNat, by omega⟩
    obtain ⟨n, rfl⟩ : ∃ n : Nat, b = (n : Int) := ⟨b.toNat, by omega⟩
    exact generates_ok C len cap k n z W h2 h3 (Lib.hid h1) (by omega) (by omega) (by omega) (by omega)
namespace matrixGenerates
open Go.ChangeShapes Go.WideShapes Go.ChangeAt Go.RowKit
open Go.ChangeMaps (open_string shut_string)
set_option linter.unusedVariables false
theorem own : ownKnob Try.prog.godebug = none := by kernel_rfl
theorem laidOut : laidOutB Try.prog = true := by kernel_rfl
set_option maxRecDepth 100000 in
theorem contract (H : Type) (enc : TypeId × Value → H) (W : World) (base : Nat) (args : Array Value) (ds gs : List (DataW H)) (before : List MemPlace)
    (hval0 : ∀ (j : Nat) t v, Try.f7.params[j]? = some t → args[j]? = some v → Value.okWide Try.prog W .any base t v)
    (hW : DataW.Whole enc Try.prog Try.f7.params.toList Rows.matrixGeneratesSpec.vars false W args.toList ds gs before) :
    Calls Try.prog 7 args W fun e W' => ∃ v, e = .returned v ∧ Rows.matrixGeneratesSpec.post enc Try.prog Try.f7 false true false false W args v W' := by
  have hval : ∀ (j : Nat) t v, Try.f7.params[j]? = some t → args[j]? = some v → Value.okWide Try.prog W .any base t v := hval0
  have hW' := hW
  obtain ⟨p, q, hA0, hV, rfl, hfz, hnd⟩ := hW
  have hA : DataW.TrodAll enc Try.prog W 0 (fun _ => true) true Try.f7.params.toList args.toList ds p := hA0
  rw [Try.params7] at hA hval
  obtain ⟨v0, vs0, d0, ds0, p0, q0, hargs, rfl, rfl, h0, r0⟩ := trodAll_cons hA
  obtain ⟨v1, vs1, d1, ds1, p1, q1, rfl, rfl, rfl, h1, r1⟩ := trodAll_cons r0
  obtain ⟨v2, vs2, d2, ds2, p2, q2, rfl, rfl, rfl, h2, r2⟩ := trodAll_cons r1
  obtain ⟨rfl, rfl, rfl⟩ := trodAll_nil r2
  obtain rfl : args = #[v0, v1, v2] := by cases args; simp_all
  obtain ⟨rfl, rfl⟩ := trodVars_none hV
  have k0 := h0
  have lt0 : ∀ x ∈ p0, x.block < W.heap.size := by obtain ⟨m, hm⟩ := k0; exact DataW.trod_lt m _ _ _ hm
  have k1 := h1
  have lt1 : ∀ x ∈ p1, x.block < W.heap.size := by obtain ⟨m, hm⟩ := k1; exact DataW.trod_lt m _ _ _ hm
  have k2 := h2
  have lt2 : ∀ x ∈ p2, x.block < W.heap.size := by obtain ⟨m, hm⟩ := k2; exact DataW.trod_lt m _ _ _ hm
  obtain ⟨a0, rfl, rfl, rfl, w0⟩ := open_int Try.underlying3 (hval 0 3 v0 rfl rfl) h0
  obtain ⟨a1, rfl, rfl, rfl, w1⟩ := open_int Try.underlying3 (hval 1 3 v1 rfl rfl) h1
  obtain ⟨A2, len2, cap2, rfl⟩ := okWide_slice Try.underlying35 (hval 2 35 v2 rfl rfl)
  obtain ⟨z2, w2⟩ := open_in_ints Try.underlying35 Try.underlying3 (by kernel_rfl) h2
  clear hA0 hval0
  refine (walk_MatrixGenerates W a0 w0 a1 w1 A2 len2 cap2 z2 w2).mono fun e W' ⟨he, bel⟩ => ?_
  subst he
  exact ⟨_, rfl, _, _, _, [], _, [], hW', trodAll_mk1 (shut_bool Try.underlying4 _), (trodAll_cons_mk (Below.trod laidOut (by kernel_rfl) (of_decide_eq_true (by kernel_rfl)) k0 bel lt0) (trodAll_cons_mk (Below.trod laidOut (by kernel_rfl) (of_decide_eq_true (by kernel_rfl)) k1 bel lt1) (trodAll_cons_mk (Below.trod laidOut (by kernel_rfl) (of_decide_eq_true (by kernel_rfl)) k2 bel lt2) trodAll_mk0))), rfl, bel.frame _, fun h => by cases h⟩
set_option maxRecDepth 100000 in
theorem lifted (os : Os) (started : os.Started) (H : Type) (enc : TypeId × Value → H) :
    ReturnsInHanded {} Try.checked os 7 .any (Rows.matrixGeneratesSpec.pre6 enc Try.prog Try.f7 Rows.matrixGeneratesRow.domain false) (Rows.matrixGeneratesSpec.post enc Try.prog Try.f7 false true false false) := by
  refine returnsInHanded_of_change (C := Try.checked) own started (by kernel_rfl) Try.func7
    (ChangeSpec.witness6 (enc := enc) (C := Try.checked) false ⟨#[], #[.int .i64 0, .int .i64 0, .slice none 0 0], []⟩ 8 (by kernel_rfl) (by kernel_rfl) (by kernel_rfl) (by kernel_rfl)) ?_
  intro W base args ds gs before hval hW _ _
  exact contract H enc W base args ds gs before hval hW
theorem over : Rows.matrixGeneratesRow.holds Try.pinned (OpenSpec.ofChange Rows.matrixGeneratesSpec) :=
  OpenClaim.holds_of_wide 7 Try.f7 rfl rfl rfl rfl rfl rfl rfl ⟨rfl, rfl, rfl, rfl, rfl⟩ rfl rfl rfl rfl rfl (by kernel_rfl) Try.func7 (by kernel_rfl)
    (of_decide_eq_true (by kernel_rfl)) (by unfold Func.isWrapper; first | (rw [if_pos (by decide +kernel)]; kernel_rfl) | (rw [if_neg (by decide +kernel)]; exact ⟨rfl, rfl⟩))
    (fun os started H enc _ => lifted os started H enc)
/-- THE STATEMENT. -/
theorem proved : Rows.MatrixGeneratesSaid := over
end matrixGenerates
end Go.Proofs.Ytebpaafofombaaa
