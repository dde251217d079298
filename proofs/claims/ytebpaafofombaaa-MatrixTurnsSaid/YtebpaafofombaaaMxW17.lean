/-
  Invert and Rank.
-/
import Derived.Test.YtebpaafofombaaaMxW16
namespace Go.Proofs.Ytebpaafofombaaa
open Go.RowKit GfMath MxMath
set_option linter.unusedVariables false
theorem own_form {w : World} {base size n : Nat} {t : TypeId} {v : Value} {xs : List Value} (h : w.ownsRow base t size v n xs) (hn : 0 < n) : ∃ g c, v = .slice (some ⟨g, 0, none⟩) n c ∧ base ≤ g ∧ g < w.heap.size ∧ n ≤ c ∧ c ≤ maxLen := by
  obtain ⟨g, cap, hv, h1, h2⟩ := h.form hn
  obtain ⟨A, cap', hv', h3, h4⟩ := own_slice h
  rw [hv] at hv'
  cases hv'
  exact ⟨g, cap, hv, h1, h2, h3, h4⟩
/-- Two matrices made one behind the other. -/
theorem Two.of {w w1 w2 : World} {v1 v2 : Value} {r n n' : Nat} {L R : Mat} {wa : World} (ha : Below w.heap.size w wa) (h1 : MSt wa v1 (lmat r n' R) w1) (h2 : MSt w1 v2 (lmat r n L) w2) (hr : 0 < r) :
    ∃ g c g' c', v1 = .slice (some ⟨g', 0, none⟩) r c' ∧ v2 = .slice (some ⟨g, 0, none⟩) r c ∧ r ≤ c ∧ r ≤ c' ∧ c ≤ maxLen ∧ c' ≤ maxLen ∧ Two w w2 g c g' c' r n n' L R w2 := by
  have hb := ha.trans (h1.bel.mono ha.size)
  obtain ⟨⟨vs, ho, hro⟩, hb1⟩ := h1
  obtain ⟨⟨vs', ho', hro'⟩, hb2⟩ := h2
  rw [lmat_len] at ho ho'
  obtain ⟨g', c', rfl, a1, a2, a3, a4⟩ := own_form ho hr
  obtain ⟨g, c, rfl, b1, b2, b3, b4⟩ := own_form ho' hr
  have hs := hb.size
  refine ⟨g, c, g', c', rfl, rfl, b3, a3, b4, a4, ⟨?_, ?_, by omega, hb.trans (hb2.mono hb.size), Others.refl _⟩⟩
  · exact ⟨vs', by rw [lmat_len]; exact own_base ho' hb.size, hro'.base_ hb.size⟩
  · exact ⟨vs, by rw [lmat_len]; exact own_below (own_base ho ha.size) hb2, (hro.base_ ha.size).below hb2⟩
theorem inv_end {w wr : World} {g c g' c' r n n' : Nat} {L R : Mat} {wi : World} (h : Two w wi g c g' c' r n n' L R wr) (he : Blk wr w.heap.size 26 #[.int .i64 0]) : ESt w (.slice (some ⟨g', 0, none⟩) r c') (lmat r n' R) wr := ⟨⟨h.ro, h.bel⟩, he⟩
theorem copied_mat (A : Option Addr) (cap r n : Nat) (M : Mat) (w : World) (HM : Hid (InM w A cap (lmat r n M))) (r1 : r ≤ 255) (n1 : n ≤ 255) :
    Calls Try.prog 34 #[.slice A r cap] w (RetMx (lmat r n M) w) := by
  have := copied_any A cap _ w HM (by rw [lmat_len]; omega) (Lib.hid fun i => by
    rcases Nat.lt_or_ge i r with h | h
    · rw [lmat_getD M h, lrow_len]; omega
    · rw [List.getD_eq_getElem?_getD, List.getElem?_eq_none (by rw [lmat_len]; exact h)]; simp)
  rwa [lmat_len] at this
set_option maxRecDepth 100000 in
set_option maxHeartbeats 1000000 in
theorem invert_ok (A : Option Addr) (ca n : Nat) (M : Mat) (w : World) (HA : Hid (InM w A ca (lmat n n M))) (n0 : 0 < n) (n1 : n ≤ 255) (hr : rankN n n M = n) :
    Calls Try.prog 12 #[.slice A n ca] w (RetMM (lmat n n (invM n M)) 0 w) := by
  have HST : Hid (ESt w (.slice none 0 0) [] (w.alloc (.cells #[.int .i64 0] 26))) := Lib.hid (ESt.new w)
  obtain ⟨s, hs⟩ : ∃ s, red n ⟨0, M, dl⟩ n = s := ⟨_, rfl⟩
  have HS := Lib.hid hs
  have hsd := rankN_of n n M dl
  have hle := red_le n M dl n
  rw [hs] at hsd hle
  rw [← hsd] at hr
  clear hs hsd
  have e2 : decide (s.d < n) = false := decide_eq_false (by omega)
  clear hr hle
  have HA1 := Lib.hid (HA.out.later HST.out.bel)
  have e1 : ((n : Int) == (n : Int)) = true := by simp
  go_enter_defers Try.func12, Try.ntmps12
  go_wp2_with (first
    | (go_at_call 32; refine (needs_ok _).mono ?_; rintro e w1 ⟨rfl, rfl⟩)
    | (go_at_call 33; refine (sized_mat _ _ _ _ _ _ HA1 (by assumption) (by assumption) (by assumption) (by assumption)).mono ?_; rintro e w1 ⟨rfl, rfl⟩)
    | (go_at_call 11; refine (identity_ok n _ n0 n1).mono ?_; rintro e w1 ⟨v1, rfl, h1⟩; have H1 := Lib.hid h1; clear h1)
    | (go_at_call 34; have HA2 := Lib.hid (HA1.out.later H1.out.bel); refine (copied_mat _ _ n n M _ HA2 n1 n1).mono ?_; rintro e w2 ⟨v2, rfl, h2⟩; have H2 := Lib.hid h2; clear h2; obtain ⟨g, c, g', c', rfl, rfl, b1, b2, b3, b4, hT⟩ := Two.of HST.out.bel H1.out H2.out n0; have HT := Lib.hid hT; clear hT)
    | (go_at_call 35; refine (reduce_any w _ g c g' c' n n n n M dl (Lib.hid ((HT.out.later ((Below.refl _ _).alloc (Nat.le_refl _) (.cells #[.slice (some ⟨g, 0, none⟩) n c, .slice (some ⟨g', 0, none⟩) n c'] 65))).since)) (Nat.le_refl _) n1 n1 n1 b1 b2 b3 b4).mono ?_; rintro e w3 ⟨rfl, h3⟩; rw [HS.out] at h3; rw [HS.out]; have hB := h3.oth _ _ _ (by decide) (Blk.new w2 65 #[.slice (some ⟨g, 0, none⟩) n c, .slice (some ⟨g', 0, none⟩) n c']); have hE := h3.oth _ _ _ (by decide) ((((HST.out.err.below H1.out.bel HST.out.err.lt).below H2.out.bel (HST.out.err.below H1.out.bel HST.out.err.lt).lt)).alloc (.cells #[.slice (some ⟨g, 0, none⟩) n c, .slice (some ⟨g', 0, none⟩) n c'] 65)); have x1 := hB.cell 1; have hcE := hE.cell 0; have hfE := hE.frozen 0; have HE := Lib.hid hE; have H3 := Lib.hid h3; clear h3 hE hB))
  have hEnd := (inv_end H3.out HE.out).ends 0
  have HEnd := Lib.hid hEnd
  clear hEnd
  have hx := HEnd.out.2
  refine leaves_cons (f := 31) (args := #[.pointer (some ⟨w.heap.size, 0, none⟩)]) (by simp) (by simp [go_sem]) ?_
  refine (refused_idle _ _).mono ?_
  rintro e u' w'' ⟨rfl, rfl, rfl⟩
  simp [Leaves, settle, results, Try.results12, go_sem, hx]
  refine ⟨_, rfl, ?_⟩
  have h := HEnd.out.1
  rwa [show s.R = invM n M from by rw [← HS.out]; rfl] at h
def RetNone (c : Int) (w : World) (e : Ending) (w' : World) : Prop := e = .returned (.tuple #[.slice none 0 0, .int .i64 c]) ∧ Below w.heap.size w w'
set_option maxRecDepth 100000 in
set_option maxHeartbeats 1000000 in
theorem invert_not (A : Option Addr) (ca n : Nat) (M : Mat) (w : World) (HA : Hid (InM w A ca (lmat n n M))) (n0 : 0 < n) (n1 : n ≤ 255) (hr : rankN n n M ≠ n) :
    Calls Try.prog 12 #[.slice A n ca] w (RetNone 21 w) := by
  have HST : Hid (ESt w (.slice none 0 0) [] (w.alloc (.cells #[.int .i64 0] 26))) := Lib.hid (ESt.new w)
  obtain ⟨s, hs⟩ : ∃ s, red n ⟨0, M, dl⟩ n = s := ⟨_, rfl⟩
  have HS := Lib.hid hs
  have hsd := rankN_of n n M dl
  have hle := red_le n M dl n
  rw [hs] at hsd hle
  rw [← hsd] at hr
  clear hs hsd
  have e2 : decide (s.d < n) = true := decide_eq_true (by omega)
  clear hr hle
  have HA1 := Lib.hid (HA.out.later HST.out.bel)
  have e1 : ((n : Int) == (n : Int)) = true := by simp
  go_enter_defers Try.func12, Try.ntmps12
  go_wp2_with (first
    | (go_at_call 32; refine (needs_ok _).mono ?_; rintro e w1 ⟨rfl, rfl⟩)
    | (go_at_call 33; refine (sized_mat _ _ _ _ _ _ HA1 (by assumption) (by assumption) (by assumption) (by assumption)).mono ?_; rintro e w1 ⟨rfl, rfl⟩)
    | (go_at_call 11; refine (identity_ok n _ n0 n1).mono ?_; rintro e w1 ⟨v1, rfl, h1⟩; have H1 := Lib.hid h1; clear h1)
    | (go_at_call 34; have HA2 := Lib.hid (HA1.out.later H1.out.bel); refine (copied_mat _ _ n n M _ HA2 n1 n1).mono ?_; rintro e w2 ⟨v2, rfl, h2⟩; have H2 := Lib.hid h2; clear h2; obtain ⟨g, c, g', c', rfl, rfl, b1, b2, b3, b4, hT⟩ := Two.of HST.out.bel H1.out H2.out n0; have HT := Lib.hid hT; clear hT)
    | (go_at_call 35; refine (reduce_any w _ g c g' c' n n n n M dl (Lib.hid ((HT.out.later ((Below.refl _ _).alloc (Nat.le_refl _) (.cells #[.slice (some ⟨g, 0, none⟩) n c, .slice (some ⟨g', 0, none⟩) n c'] 65))).since)) (Nat.le_refl _) n1 n1 n1 b1 b2 b3 b4).mono ?_; rintro e w3 ⟨rfl, h3⟩; rw [HS.out] at h3; rw [HS.out]; have hB := h3.oth _ _ _ (by decide) (Blk.new w2 65 #[.slice (some ⟨g, 0, none⟩) n c, .slice (some ⟨g', 0, none⟩) n c']); have hE := h3.oth _ _ _ (by decide) ((((HST.out.err.below H1.out.bel HST.out.err.lt).below H2.out.bel (HST.out.err.below H1.out.bel HST.out.err.lt).lt)).alloc (.cells #[.slice (some ⟨g, 0, none⟩) n c, .slice (some ⟨g', 0, none⟩) n c'] 65)); have x1 := hB.cell 1; have hcE := hE.cell 0; have hfE := hE.frozen 0; have HE := Lib.hid hE; have H3 := Lib.hid h3; clear h3 hE hB))
  have hEnd := (inv_end H3.out HE.out).ends 21
  have HEnd := Lib.hid hEnd
  clear hEnd
  have hx := HEnd.out.2
  refine leaves_cons (f := 31) (args := #[.pointer (some ⟨w.heap.size, 0, none⟩)]) (by simp) (by simp [go_sem]) ?_
  refine (refused_idle _ _).mono ?_
  rintro e u' w'' ⟨rfl, rfl, rfl⟩
  simp [Leaves, settle, results, Try.results12, go_sem, hx]
  exact ⟨rfl, HEnd.out.1.bel⟩
end Go.Proofs.Ytebpaafofombaaa
