/-
  copied.
-/
import Derived.Test.YtebpaafofombaaaMxW5
namespace Go.Proofs.Ytebpaafofombaaa
open Go.RowKit GfMath MxMath
set_option linter.unusedVariables false
/-- A matrix that is answered. -/
def RetMx (ls : List (List Nat)) (w : World) (e : Ending) (w' : World) : Prop := ∃ v, e = .returned v ∧ MSt w v ls w'
theorem take_rows (ls : List (List Nat)) (k : Nat) (h : k < ls.length) : ls.take (k + 1) = ls.take k ++ [ls.getD k []] := by
  rw [List.take_succ_eq_append_getElem h, List.getD_eq_getElem?_getD, List.getElem?_eq_getElem h]; rfl
set_option maxRecDepth 100000 in
theorem copied_any (A : Option Addr) (cap : Nat) (ls : List (List Nat)) (w : World) (HM : Hid (InM w A cap ls)) (hl : ls.length ≤ 1000) (hb : Hid (∀ i, (ls.getD i []).length ≤ 1000)) :
    Calls Try.prog 34 #[.slice A ls.length cap] w (RetMx ls w) := by
  have HST : Hid (MSt w (.slice none 0 0) (ls.take 0) w) := Lib.hid (MSt.nil (Below.refl _ _))
  obtain ⟨r, hr⟩ : ∃ r, ls.length = r := ⟨_, rfl⟩
  have HR := Lib.hid hr
  rw [hr] at hl ⊢
  clear hr
  go_enter Try.func34, Try.ntmps34
  go_wp2
  go_loopw [3, 5, 8] (fun vo _ vi wr => ∃ k : Nat, k ≤ r ∧ vi = .int .i64 k ∧ Hid (MSt w vo (ls.take k) wr)) (fun _ _ vi _ => r - (intOf vi).toNat)
  case atStart => exact ⟨0, by omega, rfl, HST⟩
  case round =>
    obtain ⟨k, hk, rfl, hst⟩ := hrel
    clear HST
    by_cases hlt : k < r
    · obtain ⟨ad, B, c, rfl, hc1, h1, h2, hrow, hby⟩ := (HM.out.later hst.out.bel).row (i := k) (by rw [HR.out]; exact hlt)
      have hlen := hb.out k
      obtain ⟨l, el⟩ : ∃ l, ls.getD k [] = l := ⟨_, rfl⟩
      rw [el] at hc1 h1 hrow hby hlen
      have EL := Lib.hid el
      have HROW := Lib.hid hrow
      have HBY := Lib.hid hby
      clear el hrow hby
      go_wp2_with (first
        | (at_builtin
           refine wpl_row rfl (.tmp 12) (.tmp 15) rfl ((hst.out).below (w' := w1) HQ.out.2.1) ?ln (.slice V l.length c1) l ?ow HBY.out rfl rfl rfl ?_
           case ln => (rw [List.length_take]; omega)
           case ow => exact own_base HQ.out.1 hst.out.bel.size
           intro v2 w2 hh)
        | (at_builtin
           refine wpl_append rfl (.const (.slice none 0 0)) (.tmp 13) _ rfl wr wr.heap.size 5 _ 1 1 Try.underlying22 Try.info5 rfl (by decide) (.slice none 0 0) 0 [] rfl ?own wr.heap.size B l.length c (l.map bv) rfl HROW.out (bv_one l) ?byt (by decide) (Below.refl _ _) (Nat.le_refl _) ?_
           case own => exact ⟨rfl, .inl ⟨rfl, rfl⟩⟩
           case byt => omega
           intro v1 w1 hw1
           have hq := hw1.out
           rw [Nat.zero_add, List.nil_append] at hq
           obtain ⟨V, c1, rfl, -, -⟩ := own_slice hq.1
           have HQ := Lib.hid hq
           clear hq hw1))
      refine ⟨⟨k + 1, by omega, by go_num, Lib.hid ?_⟩, by simp [intOf]; omega⟩
      rw [take_rows ls k (by rw [HR.out]; exact hlt), EL.out]
      exact hh.out.1
    · obtain rfl : k = r := by omega
      go_wp2
      go_ret
      refine ⟨_, rfl, ?_⟩
      have := hst.out
      rwa [List.take_of_length_le (by rw [HR.out]; exact Nat.le_refl _)] at this
end Go.Proofs.Ytebpaafofombaaa
