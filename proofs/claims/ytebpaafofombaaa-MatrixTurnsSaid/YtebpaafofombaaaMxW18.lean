/-
  Rank; what Mul refuses.
-/
import Derived.Test.YtebpaafofombaaaMxW17
namespace Go.Proofs.Ytebpaafofombaaa
open Go.RowKit GfMath MxMath
set_option linter.unusedVariables false
theorem two_swap {w wi wr : World} {g c g' c' r n n' : Nat} {L R : Mat} (h : Two w wi g c g' c' r n n' L R wr) : Two w wi g' c' g c r n' n R L wr := ⟨h.ro, h.lo, fun e => h.ne e.symm, h.bel, h.oth⟩
def RetNum (r c : Int) (w : World) (e : Ending) (w' : World) : Prop := e = .returned (.tuple #[.int .i64 r, .int .i64 c]) ∧ Below w.heap.size w w'
set_option maxRecDepth 100000 in
set_option maxHeartbeats 1000000 in
theorem rank_any (A : Option Addr) (ca r n : Nat) (M : Mat) (w : World) (HA : Hid (InM w A ca (lmat r n M))) (r0 : 0 < r) (r1 : r ≤ 255) (n0 : 0 < n) (n1 : n ≤ 255) :
    Calls Try.prog 13 #[.slice A r ca] w (RetNum (rankN r n M) 0 w) := by
  have HST : Hid (ESt w (.slice none 0 0) [] (w.alloc (.cells #[.int .i64 0] 26))) := Lib.hid (ESt.new w)
  have hrk : Hid (rankN r n M = (red r ⟨0, M, M⟩ n).d) := Lib.hid rfl
  have HA1 := Lib.hid (HA.out.later HST.out.bel)
  have tok1 : True := trivial
  go_enter_defers Try.func13, Try.ntmps13
  go_wp2_with (first
    | (go_at_call 33; refine (sized_mat _ _ _ _ _ _ HA1 (by assumption) (by assumption) (by assumption) (by assumption)).mono ?_; rintro e w1 ⟨rfl, rfl⟩)
    | (go_at_call 34; have _t := tok1; refine (copied_mat _ _ r n M _ HA1 r1 n1).mono ?_; rintro e w1 ⟨v1, rfl, h1⟩; have H1 := Lib.hid h1; clear h1 tok1 _t; have HA2 := Lib.hid (HA1.out.later H1.out.bel))
    | (go_at_call 34; refine (copied_mat _ _ r n M _ HA2 r1 n1).mono ?_; rintro e w2 ⟨v2, rfl, h2⟩; have H2 := Lib.hid h2; clear h2; obtain ⟨g, c, g', c', rfl, rfl, b1, b2, b3, b4, hT⟩ := Two.of HST.out.bel H1.out H2.out r0; have HT := Lib.hid hT; clear hT)
    | (go_at_call 35; refine (reduce_any w _ g' c' g c r n n n M M (Lib.hid ((two_swap HT.out).later ((Below.refl _ _).alloc (Nat.le_refl _) (.cells #[.slice (some ⟨g', 0, none⟩) r c', .slice (some ⟨g, 0, none⟩) r c] 65))).since) (Nat.le_refl _) r1 n1 n1 b2 b1 b4 b3).mono ?_; rintro e w3 ⟨rfl, h3⟩; rw [← hrk.out]; have hE := h3.oth _ _ _ (by decide) ((((HST.out.err.below H1.out.bel HST.out.err.lt).below H2.out.bel (HST.out.err.below H1.out.bel HST.out.err.lt).lt)).alloc (.cells #[.slice (some ⟨g', 0, none⟩) r c', .slice (some ⟨g, 0, none⟩) r c] 65)); have hcE := hE.cell 0; have hfE := hE.frozen 0; have HE := Lib.hid hE; have H3 := Lib.hid h3; clear h3 hE))
  have hEnd := (inv_end H3.out HE.out).ends 0
  have HEnd := Lib.hid hEnd
  clear hEnd
  have hx := HEnd.out.2
  refine leaves_cons (f := 31) (args := #[.pointer (some ⟨w.heap.size, 0, none⟩)]) (by simp) (by simp [go_sem]) ?_
  refine (refused_idle _ _).mono ?_
  rintro e u' w'' ⟨rfl, rfl, rfl⟩
  simp [Leaves, settle, results, Try.results13, go_sem, hx]
  exact ⟨rfl, HEnd.out.1.bel⟩
set_option maxRecDepth 100000 in
set_option maxHeartbeats 1000000 in
theorem mul_refused (A : Option Addr) (ca r : Nat) (v : Value) (ls : List (List Nat)) (w : World) (HA : Hid (InM w A ca ls)) (hr : ls.length = r) (hg : ¬ ∃ n, Good ls n) :
    Calls Try.prog 14 #[.slice A r ca, v] w (RetNone 20 w) := by
  subst hr
  have HG := Lib.hid hg
  clear hg
  have hB := Blk.new w 26 #[.int .i64 0]
  have hb := (Below.refl w.heap.size w).alloc (Nat.le_refl _) (.cells #[.int .i64 0] 26)
  have HB := Lib.hid hb
  have HA1 := Lib.hid (HA.out.later hb)
  clear hb
  have hcE := hB.cell 0
  have hfE := hB.frozen 0
  go_enter_defers Try.func14, Try.ntmps14
  go_wp2_with (go_at_call 33; refine (sized_bad _ _ ls _ HA1 HG.out).mono ?_; rintro e w1 ⟨rfl, rfl⟩)
  refine leaves_cons (f := 31) (args := #[.pointer (some ⟨w.heap.size, 0, none⟩)]) (by simp) (by simp [go_sem]) ?_
  refine (refused_panicking _ _ _ _ _ hcE hfE).mono ?_
  rintro e u' w'' ⟨rfl, rfl, rfl⟩
  simp [Leaves, settle, results, Try.results14, go_sem]
  exact ⟨rfl, (Below.refl _ _).alloc (Nat.le_refl _) _⟩
end Go.Proofs.Ytebpaafofombaaa
