/-
  A CALLER THAT COMES IN.
-/
import Derived.Test.YtmamdnikjfmenaaClW1
import Derived.Test.YtmamdnikjfmenaaClW15
import Derived.Deep.Slices
import Derived.Deep.Fields
import Derived.ChangeSame
import Derived.Lib.SmallJoins
namespace Go.Proofs.Ytmamdnikjfmenaa
open Go.RowKit
open Go.WideShapes Go.ChangeShapes Go.Deep
set_option linter.unusedVariables false
theorem array12 {α : Type} {cs : Array α} (h : cs.size = 12) : ∃ c0 c1 c2 c3 c4 c5 c6 c7 c8 c9 c10 c11, cs = #[c0, c1, c2, c3, c4, c5, c6, c7, c8, c9, c10, c11] := by
  obtain ⟨l⟩ := cs
  match l, h with
  | [c0, c1, c2, c3, c4, c5, c6, c7, c8, c9, c10, c11], _ => exact ⟨c0, c1, c2, c3, c4, c5, c6, c7, c8, c9, c10, c11, rfl⟩
section
variable {H : Type} {enc : TypeId × Value → H} {w : World} {base : Nat} {sp : Nat → Bool} {held : Bool}
theorem slice_in {t e : TypeId} {fuel : Nat} {v : Value} {y : DataW H × List MemPlace} (ht : Try.prog.underlying t = some (.slice e)) (h : DataW.trod enc Try.prog w base sp held fuel t [v] = some y) : ∃ A n cap, v = .slice A n cap := by
  rcases open_slice ht h with ⟨e, -⟩ | ⟨a, len, cap, m, n, D, Pl, e, -⟩ <;> injection e with e <;> exact ⟨_, _, _, e⟩
set_option maxRecDepth 100000 in
theorem cal_in {r : Reach} {b0 : Nat} {v : Value} {d : DataW H} {p : List MemPlace} (hok : Value.okWide Try.prog w r b0 40 v) (h : DataW.Trod enc Try.prog w base sp held 40 v d p) :
    ∃ c n N nc m D dc, v = .agg (c.cs n N nc m D dc) ∧ CalIn w c n N nc m D dc := by
  obtain ⟨cs, rfl, hsz⟩ := okWide_struct Try.underlying40 hok
  obtain ⟨c0, c1, c2, c3, c4, c5, c6, c7, c8, c9, c10, c11, rfl⟩ := array12 (hsz.trans (by kernel_rfl))
  obtain ⟨fs, hu, hk⟩ : ∃ fs : Array Field, Try.prog.underlying 40 = some (.struct fs) ∧ ((List.range 12).map fun i => fs[i]?.map fun f => (f.type, f.offset)) =
      [some (23, 0), some (25, 1), some (3, 2), some (3, 3), some (23, 4), some (4, 5), some (34, 6), some (9, 7), some (33, 8), some (3, 9), some (3, 10), some (3, 11)] := ⟨_, Try.underlying40, by kernel_rfl⟩
  obtain ⟨fuel, hf⟩ := h
  obtain ⟨xs, n, _, hx, hlen, hxl, hf⟩ := DataW.trod_struct hu hf
  have fld : ∀ (i : Nat) (t : TypeId) (v : Value), ((List.range 12).map fun i => fs[i]?.map fun f => (f.type, f.offset))[i]? = some (some (t, i)) → Try.prog.cellsOf t = 1 → ([c0, c1, c2, c3, c4, c5, c6, c7, c8, c9, c10, c11])[i]? = some v →
      ∃ y, DataW.trod enc Try.prog w base sp held n t [v] = some y := by
    intro i t v hi hc hv
    have hi12 : i < 12 := by have := (List.getElem?_eq_some_iff.1 hv).1; simpa using this
    rw [List.getElem?_map, List.getElem?_range hi12] at hi
    injection hi with hi
    obtain ⟨F, hF, e⟩ := Option.map_eq_some_iff.1 hi
    injection e with e1 e2
    have hil : i < xs.length := by rw [hxl]; exact (Array.getElem?_eq_some_iff.1 hF).1
    have h1 := hf i F hF
    rw [e1, e2, hc] at h1
    obtain ⟨hlt, hv'⟩ := List.getElem?_eq_some_iff.1 hv
    have h2 : ((Value.agg #[c0, c1, c2, c3, c4, c5, c6, c7, c8, c9, c10, c11]).cells.toList.drop i).take 1 = [v] := by
      show ((([c0, c1, c2, c3, c4, c5, c6, c7, c8, c9, c10, c11] : List Value)).drop i).take 1 = [v]
      rw [List.drop_eq_getElem_cons hlt, ← hv']; rfl
    rw [h2, List.getElem?_eq_getElem hil] at h1
    exact ⟨_, h1⟩
  rw [hk] at fld
  obtain ⟨y0, t0⟩ := fld 0 23 c0 rfl (by kernel_rfl) rfl
  obtain ⟨y1, t1⟩ := fld 1 25 c1 rfl (by kernel_rfl) rfl
  obtain ⟨y2, t2⟩ := fld 2 3 c2 rfl (by kernel_rfl) rfl
  obtain ⟨y3, t3⟩ := fld 3 3 c3 rfl (by kernel_rfl) rfl
  obtain ⟨y4, t4⟩ := fld 4 23 c4 rfl (by kernel_rfl) rfl
  obtain ⟨y5, t5⟩ := fld 5 4 c5 rfl (by kernel_rfl) rfl
  obtain ⟨y6, t6⟩ := fld 6 34 c6 rfl (by kernel_rfl) rfl
  obtain ⟨y7, t7⟩ := fld 7 9 c7 rfl (by kernel_rfl) rfl
  obtain ⟨y8, t8⟩ := fld 8 33 c8 rfl (by kernel_rfl) rfl
  obtain ⟨y9, t9⟩ := fld 9 3 c9 rfl (by kernel_rfl) rfl
  obtain ⟨y10, t10⟩ := fld 10 3 c10 rfl (by kernel_rfl) rfl
  obtain ⟨y11, t11⟩ := fld 11 3 c11 rfl (by kernel_rfl) rfl
  obtain ⟨n0, e0, -, b0⟩ := DataW.trod_int Try.underlying23 t0
  injection e0 with e0
  subst e0
  obtain ⟨A1, l1, k1, rfl⟩ := slice_in Try.underlying25 t1
  obtain ⟨n2, e2, -, b2⟩ := DataW.trod_int Try.underlying3 t2
  injection e2 with e2
  subst e2
  obtain ⟨n3, e3, -, b3⟩ := DataW.trod_int Try.underlying3 t3
  injection e3 with e3
  subst e3
  obtain ⟨n4, e4, -, b4⟩ := DataW.trod_int Try.underlying23 t4
  injection e4 with e4
  subst e4
  obtain ⟨n5, e5, -⟩ := DataW.trod_bool Try.underlying4 t5
  injection e5 with e5
  subst e5
  obtain ⟨n6, e6, -, b6⟩ := DataW.trod_int Try.underlying34 t6
  injection e6 with e6
  subst e6
  obtain ⟨n7, e7, -, -⟩ := DataW.trod_string Try.underlying9 t7
  injection e7 with e7
  subst e7
  obtain ⟨A8, l8, k8, rfl⟩ := slice_in Try.underlying33 t8
  obtain ⟨n9, e9, -, b9⟩ := DataW.trod_int Try.underlying3 t9
  injection e9 with e9
  subst e9
  obtain ⟨n10, e10, -, b10⟩ := DataW.trod_int Try.underlying3 t10
  injection e10 with e10
  subst e10
  obtain ⟨n11, e11, -, b11⟩ := DataW.trod_int Try.underlying3 t11
  injection e11 with e11
  subst e11
  have nn : ∀ z : Int, (Lit.int .u64 z).wf = true → ∃ k : Nat, z = (k : Int) := fun z hz => by
    have : 0 ≤ z ∧ z ≤ 18446744073709551615 := by simpa [Lit.wf, IntKind.min, IntKind.max, IntKind.signed, IntKind.bits] using hz
    exact ⟨z.toNat, by omega⟩
  obtain ⟨client, rfl⟩ := nn _ b0
  obtain ⟨seq, rfl⟩ := nn _ b4
  obtain ⟨zs, hz⟩ := open_in_ints Try.underlying25 Try.underlying3 (by kernel_rfl) (trod_one rfl t1)
  obtain ⟨zd, hd⟩ := open_in_ints Try.underlying33 Try.underlying5 (by kernel_rfl) (trod_one rfl t8)
  obtain ⟨data, hb, hl, hr, h1, h2⟩ := hd.bytes
  exact ⟨⟨client, zs, n2, n3, seq, n5, n6, n7, data, n9, n10, n11⟩, l1, A1, k1, l8, A8, k8, rfl, ⟨hz.2.2.1, hz.1, hz.2.2.2.1, hz.2.2.2.2, hl, hr, h1, h2, hb⟩⟩
end
end Go.Proofs.Ytmamdnikjfmenaa
