/-
  The law PlaceApart: its walk, and the statement.
-/
import Derived.Test.YtmdffmajnbokeaaPlIn
namespace Go.Proofs.Ytmdffmajnbokeaa
open Go.RowKit StrMath PlMath
set_option linter.unusedVariables false
theorem contains_take (l : List Int) (x : Int) (k : Nat) (h : k < l.length) : (l.take (k + 1)).contains x = ((l.take k).contains x || (l.getD k 0 == x)) := by
  rw [List.take_succ_eq_append_getElem h, List.getD_eq_getElem?_getD, List.getElem?_eq_getElem h]
  simp only [Option.getD_some]
  rw [Bool.eq_iff_iff]
  simp only [List.contains_iff_mem, List.mem_append, List.mem_singleton, Bool.or_eq_true, beq_iff_eq]
  exact ⟨fun h => h.imp id Eq.symm, fun h => h.imp id Eq.symm⟩
theorem ret_bool {a b : Bool} (h : a = b) : Ending.returned (.bool a) = .returned (.bool b) := by rw [h]
set_option maxRecDepth 100000 in
theorem among_any (x : Int) (A : Option Addr) (n c : Nat) (l : List Int) (w : World) (hr : Hid (Reads w w.heap.size 1 A n (l.map iv))) (hn : n ≤ maxLen) :
    Calls Try.prog 17 #[.int .i64 x, .slice A n c] w fun e w' => e = .returned (.bool (l.contains x)) ∧ w = w' := by
  unfold maxLen at hn
  have HL : Hid (l.length = n) := Lib.hid (by simpa using hr.out.1)
  go_enter Try.func17, Try.ntmps17
  go_wp2
  go_loop [5] (fun vi => ∃ k : Nat, k ≤ n ∧ vi = .int .i64 k ∧ Hid ((l.take k).contains x = false)) (fun vi => n - (intOf vi).toNat)
  case atStart => exact ⟨0, by omega, rfl, Lib.hid (by simp)⟩
  case round =>
    obtain ⟨k, hk, rfl, hc⟩ := hrel
    by_cases hlt : k < n
    · obtain ⟨ad, rfl, hb1, hc1⟩ := hr.out.intD hlt
      have ht := contains_take l x k (by have := HL.out; omega)
      rw [hc.out, Bool.false_or] at ht
      have hm : (l.take (k + 1)).contains x = true → l.contains x = true := fun h => by
        simp only [List.contains_iff_mem] at h ⊢
        exact List.mem_of_mem_take h
      obtain ⟨y, ey⟩ : ∃ y, l.getD k 0 = y := ⟨_, rfl⟩
      rw [ey] at hc1 ht
      by_cases hxy : (y == x) = true
      · have E0 : Hid (l.contains x = true) := Lib.hid (hm (by rw [ht, hxy]))
        clear ht hm ey hc
        go_wp2
        go_ret
        exact ⟨ret_bool (by simpa using E0.out.symm), rfl⟩
      · have hxy : (y == x) = false := by simpa using hxy
        have E0 : Hid ((l.take (k + 1)).contains x = false) := Lib.hid (by rw [ht, hxy])
        clear ht hm ey hc
        go_wp2
        exact ⟨⟨k + 1, by omega, by go_num, E0⟩, by simp [intOf]; omega⟩
    · obtain rfl : n = k := by omega
      have E0 : Hid (l.contains x = false) := Lib.hid (by have := hc.out; rwa [List.take_of_length_le (by have := HL.out; omega)] at this)
      clear hc
      go_wp2
      go_ret
      exact ⟨ret_bool (by simpa using E0.out.symm), rfl⟩
def fnd (ms : List Mem) (x : Int) : Nat → Bool
  | 0 => false
  | k + 1 => fnd ms x k || (((ms.getD k (0, 0)).1 == x) && decide (0 < (ms.getD k (0, 0)).2))
theorem fnd_mem {ms : List Mem} {y : Mem} (hy : y ∈ ms) (h0 : 0 < y.2) : fnd ms y.1 ms.length = true := by
  obtain ⟨k, hk, rfl⟩ := List.mem_iff_getElem.1 hy
  have key : ∀ n, k < n → fnd ms ms[k].1 n = true := by
    intro n
    induction n with
    | zero => intro h; omega
    | succ n ih =>
      intro h
      unfold fnd
      by_cases e : k = n
      · subst e
        rw [List.getD_eq_getElem?_getD, List.getElem?_eq_getElem hk]
        simp [h0]
      · rw [ih (by omega)]; rfl
  exact key _ hk
theorem nodesR_err {ms : List Mem} {g t : Int} (h : (nodesR ms g t).2 ≠ 0) : (nodesR ms g t).1 = [] := by
  unfold nodesR at h ⊢
  split
  · rfl
  · split
    · rfl
    · split
      · rfl
      · rename_i h1 h2 h3
        rw [if_neg h1, if_neg h2, if_neg h3] at h
        exact absurd rfl h
theorem nodesR_good {ms : List Mem} {g t : Int} (h : (nodesR ms g t).2 = 0) : ∃ g' t' : Nat, g = g' ∧ t = t' ∧ chk ms = true ∧ g' < 64 ∧ 1 ≤ t' ∧ t' ≤ 255 ∧ t' ≤ wts ms := by
  unfold nodesR at h
  by_cases h1 : chk ms = false
  · rw [if_pos h1] at h; exact absurd h (by decide)
  · rw [if_neg h1] at h
    by_cases h2 : g < 0 ∨ 64 ≤ g ∨ t < 1 ∨ 255 < t
    · rw [if_pos h2] at h; exact absurd h (by decide)
    · rw [if_neg h2] at h
      by_cases h3 : (wts ms : Int) < t
      · rw [if_pos h3] at h; exact absurd h (by decide)
      · exact ⟨g.toNat, t.toNat, by omega, by omega, by simpa using h1, by omega, by omega, by omega, by omega⟩
section
variable (e : Nat) (A : Option Addr) (n cap : Nat) (ms : List Mem) (W : World)
set_option maxRecDepth 100000 in
theorem apart_err (g t : Int) (hr : Hid (Reads W W.heap.size 2 A n (mcells ms))) (h64 : M64 ms) (hc : n ≤ cap) (hm : cap ≤ maxLen) (he : (nodesR ms g t).2 ≠ 0) :
    Calls Try.prog 4 #[mapV e A n cap, .int .i64 g, .int .i64 t] W fun e w' => e = .returned (.bool true) ∧ Below W.heap.size W w' := by
  have H1 := Lib.hid (fun W h => nodes_any e A n cap ms g t W h h64 hc hm)
  have hl := nodesR_err he
  generalize nodesR ms g t = R at *
  obtain ⟨l, er⟩ := R
  simp only at hl he
  subst hl
  have d1 : (er != 0) = true := by simpa using he
  unfold mapV at H1 ⊢
  go_enter Try.func4, Try.ntmps4
  go_wp2_with fail
  refine (H1.out _ (Lib.hid ((hr.out.alloc (Nat.le_refl _) _).more (by simp)))).mono ?_
  intro en w2 h
  obtain ⟨A1, n1, c1, rfl, rfl, R1, hc1, hm1, hb⟩ := h.open
  have hb2 : Below W.heap.size W w2 := ((Below.refl _ _).alloc (Nat.le_refl _) _).trans (hb.mono (by simp))
  clear h hb
  go_wp2_with fail
  refine (heads_any w2).mono ?_
  rintro en w3 ⟨rfl, hb3⟩
  go_wp2
  go_ret
  exact ⟨rfl, hb2.trans (hb3.mono hb2.size)⟩
set_option maxRecDepth 100000 in
set_option maxHeartbeats 4000000 in
theorem apart_ok (g t : Nat) (hr : Hid (Reads W W.heap.size 2 A n (mcells ms))) (h64 : M64 ms) (hc : n ≤ cap) (hm : cap ≤ maxLen) (hk : chk ms = true) (h1 : g < 64) (h2 : 1 ≤ t) (h3 : t ≤ 255) (hf : t ≤ wts ms) :
    Calls Try.prog 4 #[mapV e A n cap, .int .i64 g, .int .i64 t] W fun e w' => e = .returned (.bool true) ∧ Below W.heap.size W w' := by
  have H1 := Lib.hid (fun W h => nodes_ok e A n cap ms g t W h h64 hc hm hk h1 h2 h3 hf)
  have H2 : Hid (2 ≤ t → ∀ W h, Calls Try.prog 9 #[mapV e A n cap, .int .i64 g, .int .i64 ((t - 1 : Nat) : Int)] W (RetI (picks (cF g) ms (t - 1), 0) W)) := Lib.hid (fun h4 W h => nodes_ok e A n cap ms g (t - 1) W h h64 hc hm hk h1 (by omega) (by omega) (by omega))
  have hU := (chk_up hk).1
  have hap : Hid (∀ k, k < t → ∃ x, (picks (cF g) ms t)[k]? = some x.1 ∧ x ∈ ms ∧ 0 < x.2 ∧ x.1 ∉ (picks (cF g) ms t).take k) := Lib.hid (fun k hk' => picks_apart (c := cF g) hU hf hk')
  have hpt : Hid ((picks (cF g) ms t).take (t - 1) = picks (cF g) ms (t - 1)) := Lib.hid (picks_take ms t (t - 1) (by omega))
  have HPL := Lib.hid (picks_length (c := cF g) ms t)
  have HL : Hid (ms.length = n) := Lib.hid (by have := hr.out.1; rw [mcells_len] at this; omega)
  have hn32 : n ≤ 32 := by rw [← HL.out]; exact (chk_up hk).2
  unfold maxLen at hm
  clear hk h64 hf hU
  generalize picks (cF g) ms t = l at *
  unfold mapV at H1 H2 ⊢
  go_enter Try.func4, Try.ntmps4
  go_wp2_with fail
  refine (H1.out _ (Lib.hid ((hr.out.alloc (Nat.le_refl _) _).more (by simp)))).mono ?_
  intro en w2 h
  obtain ⟨v1, rfl, ho, hb⟩ := h
  rw [HPL.out] at ho
  obtain ⟨g0, c1, rfl, _, _⟩ := World.ownsRow.form ho (by omega)
  obtain ⟨hc1, hm1⟩ : t ≤ c1 ∧ c1 ≤ maxLen := by
    obtain ⟨_, _, ev, q1, q2⟩ := own_slice ho
    injection ev with _ _ ev
    subst ev
    exact ⟨q1, q2⟩
  have R1 := Lib.hid (Reads.of_own ho)
  have hx := box_after hb
  have hx0 := hx.cell 0
  have hx1 := hx.cell 1
  have HX := Lib.hid hx
  have hb2 : Below W.heap.size W w2 := ((Below.refl _ _).alloc (Nat.le_refl _) _).trans (hb.mono (by simp))
  clear hb H1 hx ho
  have HR : Hid (Reads w2 w2.heap.size 2 A n (mcells ms)) := Lib.hid ((hr.out.below hb2).more hb2.size)
  have HB := Lib.hid hb2
  clear hb2
  go_wp2
  go_loopw [9, 10, 11] (fun vi _ _ wr => ∃ i d : Nat, i ≤ t ∧ vi = .int .i64 i ∧ wr = w2.drewN d) (fun vi _ _ _ => t - (intOf vi).toNat)
  case atStart => exact ⟨0, 0, by omega, rfl, rfl⟩
  case round =>
    obtain ⟨i, d, hi, rfl, rfl⟩ := hrel
    by_cases hit : i < t
    · obtain ⟨x, hx1', hx2, hx3, hx4⟩ := hap.out i hit
      have hfn := fnd_mem hx2 hx3
      rw [HL.out] at hfn
      obtain ⟨a1, ea1, _, hcl⟩ := R1.out.intD hit
      injection ea1 with ea1
      subst ea1
      have hg : l.getD i 0 = x.1 := by rw [List.getD_eq_getElem?_getD, hx1']; rfl
      rw [hg] at hcl
      have hcon : (l.take i).contains x.1 = false := by simpa using hx4
      obtain ⟨z, ez⟩ : ∃ z, x.1 = z := ⟨_, rfl⟩
      rw [ez] at hcl hcon hfn
      have HF := Lib.hid hfn
      have HC := Lib.hid hcon
      have e1 : (⟨g0, 0, none⟩ : Addr).add i = ⟨g0, i, none⟩ := by unfold Addr.add; split <;> simp_all
      rw [e1] at hcl
      clear hx1' hx2 hx3 hx4 hfn hg hcon ez e1
      go_wp2
      go_loopw [10, 11] (fun vf vj wr => ∃ j d' : Nat, j ≤ n ∧ vj = .int .i64 j ∧ vf = .bool (fnd ms z j) ∧ wr = w2.drewN d') (fun _ vj _ => n - (intOf vj).toNat)
      case atStart => exact ⟨0, d, by omega, rfl, rfl, rfl⟩
      case round =>
        obtain ⟨j, d', hj, rfl, rfl, rfl⟩ := hrel
        by_cases hjn : j < n
        · obtain ⟨ad, rfl, hbl, k1, k2⟩ := HR.out.mem hjn
          have hfs : fnd ms z (j + 1) = (fnd ms z j || (((ms.getD j (0, 0)).1 == z) && decide (0 < (ms.getD j (0, 0)).2))) := rfl
          obtain ⟨y, ey⟩ : ∃ y, ms.getD j (0, 0) = y := ⟨_, rfl⟩
          rw [ey] at k1 k2 hfs
          obtain ⟨id, wt⟩ := y
          simp only at k1 k2 hfs
          clear ey
          generalize fnd ms z j = b0 at *
          cases b0
          · rw [Bool.false_or] at hfs
            by_cases f1 : (id == z) = true
            · rw [f1, Bool.true_and] at hfs
              by_cases f2 : 0 < wt
              · have f3 : decide (0 < wt) = true := decide_eq_true f2
                rw [f3] at hfs
                have Q := Lib.hid hfs
                clear hfs
                go_wp2
                go_quiet (fail)
                go_wp2
                exact ⟨⟨j + 1, _, by omega, by go_num, by rw [Q.out], rfl⟩, by simp [intOf]; omega⟩
              · have f3 : decide (0 < wt) = false := decide_eq_false f2
                rw [f3] at hfs
                have Q := Lib.hid hfs
                clear hfs
                go_wp2
                go_quiet (fail)
                go_wp2
                exact ⟨⟨j + 1, _, by omega, by go_num, by rw [Q.out], rfl⟩, by simp [intOf]; omega⟩
            · have f1 : (id == z) = false := by simpa using f1
              rw [f1, Bool.false_and] at hfs
              have Q := Lib.hid hfs
              clear hfs
              go_wp2
              go_quiet (fail)
              go_wp2
              exact ⟨⟨j + 1, _, by omega, by go_num, by rw [Q.out], rfl⟩, by simp [intOf]; omega⟩
          · rw [Bool.true_or] at hfs
            have Q := Lib.hid hfs
            clear hfs
            go_wp2
            go_quiet (fail)
            go_wp2
            exact ⟨⟨j + 1, _, by omega, by go_num, by rw [Q.out], rfl⟩, by simp [intOf]; omega⟩
        · obtain rfl : n = j := by omega
          obtain ⟨i0, hi0, hz0, hz1, hz2⟩ := info_parts Try.infoI64
          have s1 := fun W => slice_to (P := Try.prog) (t := 26) Try.underlying26 hi0 hz1 (some ⟨g0, 0, none⟩) t c1 i (by omega) W
          have RT : Hid (Reads w2 w2.heap.size 1 (some ⟨g0, 0, none⟩) i ((l.take i).map iv)) := Lib.hid (by rw [List.map_take]; exact R1.out.first (by omega))
          have hA := fun dq => among_any z (some ⟨g0, 0, none⟩) i c1 (l.take i) (w2.drewN dq) (Lib.hid (RT.out.drewN dq)) (by unfold maxLen; omega)
          simp only [HC.out] at hA
          have HA := Lib.hid hA
          clear hi0 hz0 hz1 hz2 hA
          rw [HF.out]
          go_wp2
          go_quiet ((go_at_call 17; exact quiet_add_left (HA.out _)))
          go_wp2
          exact ⟨⟨i + 1, _, by omega, by go_num, rfl⟩, by simp [intOf]; omega⟩
    · obtain rfl : t = i := by omega
      by_cases ht1 : t = 1
      · have d1 : ((t : Int) == 1) = true := by simp [ht1]
        have d2 : (t == 1) = true := by simp [ht1]
        have HT := Lib.hid ht1
        have hb3 := bel_drewN HB.out d
        clear ht1
        generalize w2.drewN d = w3 at *
        go_wp2_with fail
        refine (heads_any w3).mono ?_
        rintro en w4 ⟨rfl, hb4⟩
        go_wp2
        go_ret
        exact ⟨rfl, hb3.trans (hb4.mono hb3.size)⟩
      · have d1 : ((t : Int) == 1) = false := by simp; omega
        have d2 : (t == 1) = false := by simp [ht1]
        have hb3 := bel_drewN HB.out d
        have R3 : Hid (Reads (w2.drewN d) w2.heap.size 1 (some ⟨g0, 0, none⟩) t (l.map iv)) := Lib.hid (R1.out.drewN d)
        have HR3 : Hid (Reads (w2.drewN d) w2.heap.size 2 A n (mcells ms)) := Lib.hid (HR.out.drewN d)
        have hx0' : (w2.drewN d).cell? ⟨W.heap.size, 0, none⟩ = some (.int .u64 (e : Int)) := hx0
        have hx1' : (w2.drewN d).cell? ⟨W.heap.size, 1, none⟩ = some (.slice A n cap) := hx1
        have hsz : (w2.drewN d).heap.size = w2.heap.size := rfl
        rw [← hsz] at R3 HR3
        clear hsz hx0 hx1 R1 HR HX hap
        generalize w2.drewN d = w3 at *
        obtain ⟨i0, hi0, hz0, hz1, hz2⟩ := info_parts Try.infoI64
        have s1 := fun W => slice_to (P := Try.prog) (t := 26) Try.underlying26 hi0 hz1 (some ⟨g0, 0, none⟩) t c1 (t - 1) (by omega) W
        rw [show ((t - 1 : Nat) : Int) = (t : Int) - 1 from by omega] at s1
        have H3 := H2.out (by omega)
        rw [show ((t - 1 : Nat) : Int) = (t : Int) - 1 from by omega] at H3
        have H4 := Lib.hid H3
        have RT : Hid (Reads w3 w3.heap.size 1 (some ⟨g0, 0, none⟩) (t - 1) ((picks (cF g) ms (t - 1)).map iv)) := Lib.hid (by rw [← hpt.out, List.map_take]; exact R3.out.first (by omega))
        have hp1 := picks_length (c := cF g) ms (t - 1)
        have HP1 := Lib.hid hp1
        clear H3 hi0 hz0 hz1 hz2 H2 hpt hp1 R3
        generalize picks (cF g) ms (t - 1) = l2 at *
        go_wp2_with fail
        refine (H4.out w3 HR3).mono ?_
        intro en w4 h
        obtain ⟨A4, n4, c4, rfl, hn4, R4, hc4, hm4, hb⟩ := h.open
        have RT4 := hgrow RT hb
        have hb4 := hb3.trans (hb.mono hb3.size)
        have HN4 := Lib.hid hn4
        clear h hb hb3 hx0' hx1' hn4 RT
        go_wp2_with fail
        refine (rints_same A4 _ n4 c4 _ _ l2 w4 R4.out RT4.out (by omega)).mono ?_
        rintro en w5 ⟨rfl, dd, rfl⟩
        have hb5 := bel_drewN hb4 dd
        generalize w4.drewN dd = w5 at *
        go_wp2_with fail
        refine (heads_any w5).mono ?_
        rintro en w6 ⟨rfl, hb6⟩
        go_wp2
        go_ret
        exact ⟨rfl, hb5.trans (hb6.mono hb5.size)⟩
end
theorem walk_PlaceApart {H : Type} {enc : TypeId × Value → H} (W : World) (v : Value) (d : DataW H) (p : List MemPlace) (hm : DataW.Trod enc Try.prog W 0 (fun _ => true) true 25 v d p) (hok : Value.okWide Try.prog W .any 0 25 v)
    (g : Int) (wg : Lit.wf (.int .i64 g)) (t : Int) (wt : Lit.wf (.int .i64 t)) :
    Calls Try.prog 4 #[v, .int .i64 g, .int .i64 t] W fun e w' => e = .returned (.bool true) ∧ Below W.heap.size W w' := by
  obtain ⟨e, A, n, cap, ms, rfl, _, hr, h64, hc, hm'⟩ := open_map hok hm
  by_cases he : (nodesR ms g t).2 = 0
  · obtain ⟨g', t', rfl, rfl, hk, h1, h2, h3, h4⟩ := nodesR_good he
    exact apart_ok e A n cap ms W g' t' hr h64 hc hm' hk h1 h2 h3 h4
  · exact apart_err e A n cap ms W g t hr h64 hc hm' he
namespace placeApart
open Go.ChangeShapes Go.WideShapes Go.ChangeAt Go.RowKit
open Go.ChangeMaps (open_string shut_string)
set_option linter.unusedVariables false
theorem own : ownKnob Try.prog.godebug = none := by kernel_rfl
theorem laidOut : laidOutB Try.prog = true := by kernel_rfl
set_option maxRecDepth 100000 in
theorem contract (H : Type) (enc : TypeId × Value → H) (W : World) (base : Nat) (args : Array Value) (ds gs : List (DataW H)) (before : List MemPlace)
    (hval0 : ∀ (j : Nat) t v, Try.f4.params[j]? = some t → args[j]? = some v → Value.okWide Try.prog W .any base t v)
    (hW : DataW.Whole enc Try.prog Try.f4.params.toList Rows.placeApartSpec.vars false W args.toList ds gs before) :
    Calls Try.prog 4 args W fun e W' => ∃ v, e = .returned v ∧ Rows.placeApartSpec.post enc Try.prog Try.f4 false true false false W args v W' := by
  have hval : ∀ (j : Nat) t v, Try.f4.params[j]? = some t → args[j]? = some v → Value.okWide Try.prog W .any base t v := hval0
  have hW' := hW
  obtain ⟨p, q, hA0, hV, rfl, hfz, hnd⟩ := hW
  have hA : DataW.TrodAll enc Try.prog W 0 (fun _ => true) true Try.f4.params.toList args.toList ds p := hA0
  rw [Try.params4] at hA hval
  obtain ⟨v0, vs0, d0, ds0, p0, q0, hargs, rfl, rfl, h0, r0⟩ := trodAll_cons hA
  obtain ⟨v1, vs1, d1, ds1, p1, q1, rfl, rfl, rfl, h1, r1⟩ := trodAll_cons r0
  obtain ⟨v2, vs2, d2, ds2, p2, q2, rfl, rfl, rfl, h2, r2⟩ := trodAll_cons r1
  obtain ⟨rfl, rfl, rfl⟩ := trodAll_nil r2
  obtain rfl : args = #[v0, v1, v2] := by cases args; simp_all
  obtain ⟨rfl, rfl⟩ := trodVars_none hV
  have k0 := h0
  have lt0 : ∀ x ∈ p0, x.block < W.heap.size := by obtain ⟨m, hm⟩ := k0; exact DataW.trod_lt m _ _ _ hm
  have k1 := h1
  have lt1 : ∀ x ∈ p1, x.block < W.heap.size := by obtain ⟨m, hm⟩ := k1; exact DataW.trod_lt m _ _ _ hm
  have k2 := h2
  have lt2 : ∀ x ∈ p2, x.block < W.heap.size := by obtain ⟨m, hm⟩ := k2; exact DataW.trod_lt m _ _ _ hm
  obtain ⟨a1, rfl, rfl, rfl, w1⟩ := open_int Try.underlying3 (hval 1 3 v1 rfl rfl) h1
  obtain ⟨a2, rfl, rfl, rfl, w2⟩ := open_int Try.underlying3 (hval 2 3 v2 rfl rfl) h2
  clear hA0 hval0
  refine (walk_PlaceApart W v0 d0 p0 h0 (hval 0 25 v0 rfl rfl) a1 w1 a2 w2).mono fun e W' ⟨he, bel⟩ => ?_
  subst he
  exact ⟨_, rfl, _, _, _, [], _, [], hW', trodAll_mk1 (shut_bool Try.underlying4 _), (trodAll_cons_mk (Below.trod laidOut (by kernel_rfl) (of_decide_eq_true (by kernel_rfl)) k0 bel lt0) (trodAll_cons_mk (Below.trod laidOut (by kernel_rfl) (of_decide_eq_true (by kernel_rfl)) k1 bel lt1) (trodAll_cons_mk (Below.trod laidOut (by kernel_rfl) (of_decide_eq_true (by kernel_rfl)) k2 bel lt2) trodAll_mk0))), rfl, bel.frame _, fun h => by cases h⟩
set_option maxRecDepth 100000 in
theorem lifted (os : Os) (started : os.Started) (H : Type) (enc : TypeId × Value → H) :
    ReturnsInHanded {} Try.checked os 4 .any (Rows.placeApartSpec.pre6 enc Try.prog Try.f4 Rows.placeApartRow.domain false) (Rows.placeApartSpec.post enc Try.prog Try.f4 false true false false) := by
  refine returnsInHanded_of_change (C := Try.checked) own started (by kernel_rfl) Try.func4
    (ChangeSpec.witness6 (enc := enc) (C := Try.checked) false ⟨#[], #[.agg #[.int .u64 0, .slice none 0 0], .int .i64 0, .int .i64 0], []⟩ 8 (by kernel_rfl) (by kernel_rfl) (by kernel_rfl) (by kernel_rfl)) ?_
  intro W base args ds gs before hval hW _ _
  exact contract H enc W base args ds gs before hval hW
theorem over : Rows.placeApartRow.holds Try.pinned (OpenSpec.ofChange Rows.placeApartSpec) :=
  OpenClaim.holds_of_wide 4 Try.f4 rfl rfl rfl rfl rfl rfl rfl ⟨rfl, rfl, rfl, rfl, rfl⟩ rfl rfl rfl rfl rfl (by kernel_rfl) Try.func4 (by kernel_rfl)
    (of_decide_eq_true (by kernel_rfl)) (by unfold Func.isWrapper; first | (rw [if_pos (by decide +kernel)]; kernel_rfl) | (rw [if_neg (by decide +kernel)]; exact ⟨rfl, rfl⟩))
    (fun os started H enc _ => lifted os started H enc)
/-- THE STATEMENT. -/
theorem proved : Rows.PlaceApartSaid := over
end placeApart
end Go.Proofs.Ytmdffmajnbokeaa
