/-
  Pick.
-/
import Derived.Test.YtebpaafofombaaaMxW12
namespace Go.Proofs.Ytebpaafofombaaa
open Go.RowKit GfMath MxMath
set_option linter.unusedVariables false
set_option maxRecDepth 100000 in
set_option maxHeartbeats 1000000 in
theorem pick_ok (A B : Option Addr) (ca cb n k m : Nat) (M : Mat) (rs : List Nat) (w : World) (HA : Hid (InM w A ca (lmat n k M))) (HB : Hid (Reads w w.heap.size 1 B m (rs.map fun r => Value.int .i64 (r : Nat)))) (hm : rs.length = m) (hr : Hid (∀ i, i < m → rs.getD i 0 < n))
    (n0 : 0 < n) (n1 : n ≤ 255) (k0 : 0 < k) (k1 : k ≤ 255) (m0 : 0 < m) (m1 : m ≤ 255) :
    Calls Try.prog 19 #[.slice A n ca, .slice B m cb] w (RetMM (lmat m k (fun i => M (rs.getD i 0))) 0 w) := by
  have HM := Lib.hid hm
  clear hm
  have e1 : decide (0 < (m : Int)) = true := decide_eq_true (by omega)
  have e2 : decide ((m : Int) ≤ 255) = true := decide_eq_true (by omega)
  have HST : Hid (ESt w (.slice none 0 0) (lmat 0 k (fun i => M (rs.getD i 0))) (w.alloc (.cells #[.int .i64 0] 26))) := Lib.hid (ESt.new w)
  have HA1 := Lib.hid (HA.out.later HST.out.bel)
  go_enter_defers Try.func19, Try.ntmps19
  go_wp2_with (first
    | (go_at_call 32; refine (needs_ok _).mono ?_; rintro e w1 ⟨rfl, rfl⟩)
    | (go_at_call 33; refine (sized_mat _ _ _ _ _ _ HA1 (by assumption) (by assumption) (by assumption) (by assumption)).mono ?_; rintro e w1 ⟨rfl, rfl⟩))
  generalize w.alloc (.cells #[.int .i64 0] 26) = wa at *
  go_loopw [4, 9, 26] (fun vo _ vi wr => ∃ i : Nat, i ≤ m ∧ vi = .int .i64 i ∧ Hid (ESt w vo (lmat i k (fun i => M (rs.getD i 0))) wr)) (fun _ _ vi _ => m - (intOf vi).toNat)
  case atStart => exact ⟨0, by omega, rfl, HST⟩
  case round =>
    obtain ⟨i, hi, rfl, hst⟩ := hrel
    clear HST HA1
    by_cases hlt : i < m
    · have hq := (HB.out.later hst.out.bel).at_ hlt
      obtain ⟨bd, u, rfl, _, hu, hd⟩ := hq
      rw [List.getElem?_map] at hu
      have hrn := hr.out i hlt
      have hri : rs[i]? = some (rs.getD i 0) := by rw [List.getD_eq_getElem?_getD, List.getElem?_eq_getElem (by rw [HM.out]; exact hlt)]; rfl
      rw [hri] at hu
      simp only [Option.map_some, Option.some.injEq] at hu
      subst hu
      clear hri
      have HRi : Hid (∀ f : Nat → Nat → El, f (rs.getD i 0) = f (rs.getD i 0)) := Lib.hid fun _ => rfl
      obtain ⟨x, hx⟩ : ∃ x, rs.getD i 0 = x := ⟨_, rfl⟩
      have HX := Lib.hid hx
      rw [hx] at hrn hd
      clear hx HRi
      obtain ⟨ad, D, c', rfl, hc1, h3, h4, hrow⟩ := (HA.out.later hst.out.bel).mrow hrn
      have HRow := Lib.hid hrow
      clear hrow
      have d1 : decide ((x : Int) < 0) = false := decide_eq_false (by omega)
      have d2 : decide ((n : Int) ≤ (x : Int)) = false := decide_eq_false (by omega)
      go_wp2_with (first
        | (at_builtin
           refine wpl_row rfl (.tmp 37) (.tmp 43) rfl (hst.out.later HQ.out.2.1).toMSt ?ln (.slice V k c1) (lrow k (M x)) ?ow (lrow_byt _ _) rfl ?gx rfl ?_
           case gx => rfl
           case ln => (rw [lmat_len]; omega)
           case ow => (rw [lrow_len]; exact own_base HQ.out.1 hst.out.bel.size)
           intro v2 w2 hh)
        | (at_builtin
           refine wpl_append rfl (.const (.slice none 0 0)) (.tmp 41) _ rfl wr wr.heap.size 5 _ 1 1 Try.underlying22 Try.info5 rfl (by decide) (.slice none 0 0) 0 [] rfl ?own wr.heap.size D k c' ((lrow k (M x)).map bv) rfl HRow.out (bv_one _) ?byt (by decide) (Below.refl _ _) (Nat.le_refl _) ?_
           case own => exact ⟨rfl, .inl ⟨rfl, rfl⟩⟩
           case byt => omega
           intro v1 w1 hw1
           have hq := hw1.out
           rw [Nat.zero_add, List.nil_append] at hq
           obtain ⟨V, c1, rfl, -, -⟩ := own_slice hq.1
           have HQ := Lib.hid hq
           clear hq hw1))
      refine ⟨⟨i + 1, by omega, by go_num, Lib.hid ⟨?_, ?_⟩⟩, by simp [intOf]; omega⟩
      · rw [lmat_snoc, HX.out]; exact hh.out.1
      · exact hh.out.2 _ _ _ (by decide) (hst.out.later HQ.out.2.1).err
    · obtain rfl : i = m := by omega
      have hcE := hst.out.err.cell 0
      have hfE := hst.out.err.frozen 0
      have hEnd := hst.out.ends 0
      have HEnd := Lib.hid hEnd
      clear hEnd
      go_wp2
      have hx := HEnd.out.2
      refine leaves_cons (f := 31) (args := #[.pointer (some ⟨w.heap.size, 0, none⟩)]) (by simp) (by simp [go_sem]) ?_
      refine (refused_idle _ _).mono ?_
      rintro e u' w'' ⟨rfl, rfl, rfl⟩
      simp [Leaves, settle, results, Try.results19, go_sem, hx]
      exact ⟨_, rfl, HEnd.out.1⟩
end Go.Proofs.Ytebpaafofombaaa
