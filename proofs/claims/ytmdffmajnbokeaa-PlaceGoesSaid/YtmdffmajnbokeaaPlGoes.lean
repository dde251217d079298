/-
  The law PlaceGoes: its walk, and the statement.
-/
import Derived.Test.YtmdffmajnbokeaaPlMoves
namespace Go.Proofs.Ytmdffmajnbokeaa
open Go.RowKit StrMath PlMath
set_option linter.unusedVariables false
theorem put_back {ms : List Mem} (hU : Up ms) {x : Mem} (hx : x ∈ ms) (w : Int) : (ms.map (put x.1 w)).map (put x.1 x.2) = ms := by
  rw [List.map_map]
  conv => rhs; rw [← List.map_id ms]
  refine List.map_congr_left fun y hy => ?_
  show put x.1 x.2 (put x.1 w y) = y
  by_cases e : y.1 = x.1
  · have : y = x := hU.inj hy hx e
    subst this
    unfold put
    simp
  · unfold put
    rw [if_neg e, if_neg e]
theorem goes_math (c : Nat → Mem → Int) {ms : List Mem} (hU : Up ms) {x : Mem} (hx : x ∈ ms) {t : Nat} (hf : t ≤ wts ms) (hf' : t ≤ wts (ms.map (put x.1 0))) (hc : ∀ r, ∀ y : Mem, 1 ≤ y.2 → y.2 ≤ x.2 → y.1 = x.1 → c r x ≤ c r y) :
    lost (picks c (ms.map (put x.1 0)) t) (picks c ms t) t = (if (picks c ms t).contains x.1 then 1 else 0) ∧ ∀ i, i < t → (picks c (ms.map (put x.1 0)) t).getD i 0 ≠ x.1 := by
  have hxr := hU.2 x hx
  have hU' := up_put hU (i := x.1) (w := 0) (by omega)
  have hb := put_back hU hx 0
  have hle : ∀ y ∈ ms.map (put x.1 0), y.1 = x.1 → y.2 = 0 := fun y hy e => by
    obtain ⟨z, hz, rfl⟩ := List.mem_map.1 hy
    rw [put_fst] at e
    unfold put
    rw [if_pos e]
  have hno : ∀ i, i < t → (picks c (ms.map (put x.1 0)) t).getD i 0 ≠ x.1 := fun i hi e => by
    obtain ⟨y, hy1, hy2, hy3, _⟩ := picks_apart (c := c) hU' hf' hi
    rw [List.getD_eq_getElem?_getD, hy1] at e
    have := hle y hy2 e
    omega
  have hone := moves_one (c := c) (ms := ms.map (put x.1 0)) hU' (i := x.1) (w := x.2) ⟨hxr.2.2.1, hxr.2.2.2⟩ (n := t) hf' (by rw [hb]; exact hf) (fun y hy e => by rw [hle y hy e]; exact hxr.2.2.1) (fun r y hy e h0 => absurd (hle y hy e) h0)
  rw [hb] at hone
  have hl : lost (picks c (ms.map (put x.1 0)) t) (picks c ms t) t = ((picks c (ms.map (put x.1 0)) t).filter fun y => !(picks c ms t).contains y).length := by
    unfold lost
    rw [List.take_of_length_le (by rw [picks_length]; exact Nat.le_refl _)]
  refine ⟨?_, hno⟩
  rw [hl]
  by_cases hm : x.1 ∈ picks c ms t
  · rw [if_pos (by simpa using hm)]
    refine hone.2.2 hm fun h => ?_
    obtain ⟨i, hi, e⟩ := List.mem_iff_getElem.1 h
    rw [picks_length] at hi
    refine hno i hi ?_
    rw [List.getD_eq_getElem?_getD, List.getElem?_eq_getElem (by rw [picks_length]; exact hi), e]
    rfl
  · rw [if_neg (by simpa using hm)]
    exact hone.2.1 hm ⟨_, List.mem_map_of_mem hx, put_fst _ _ _⟩
section
variable (e : Nat) (A : Option Addr) (n cap : Nat) (ms : List Mem) (W : World)
set_option maxRecDepth 100000 in
theorem pgoes_out (g t at_ : Int) (hr : Hid (Reads W W.heap.size 2 A n (mcells ms))) (h64 : M64 ms) (hc : n ≤ cap) (hm : cap ≤ maxLen) (he : (nodesR ms g t).2 ≠ 0 ∨ at_ < 0 ∨ (n : Int) ≤ at_) :
    Calls Try.prog 6 #[mapV e A n cap, .int .i64 g, .int .i64 t, .int .i64 at_] W fun e w' => e = .returned (.bool true) ∧ Below W.heap.size W w' := by
  have H1 := Lib.hid (fun W h => nodes_any e A n cap ms g t W h h64 hc hm)
  generalize nodesR ms g t = R at *
  obtain ⟨l, er⟩ := R
  simp only at he
  have aux : (er != 0) = true ∨ ((er != 0) = false ∧ decide (at_ < 0) = true) ∨ ((er != 0) = false ∧ decide (at_ < 0) = false ∧ decide ((n : Int) ≤ at_) = true) := by
    simp only [bne_iff_ne, decide_eq_true_eq, decide_eq_false_iff_not, bne_eq_false_iff_eq, ne_eq]
    omega
  unfold maxLen at hm
  clear he
  unfold mapV at H1 ⊢
  rcases aux with d1 | ⟨d1, d2⟩ | ⟨d1, d2, d3⟩
  all_goals
    go_enter Try.func6, Try.ntmps6
    go_wp2_with fail
    refine (H1.out _ (Lib.hid ((hr.out.alloc (Nat.le_refl _) _).more (by simp)))).mono ?_
    intro en w2 h
    obtain ⟨A1, n1, c1, rfl, hn1, R1, hc1, hm1, hb⟩ := h.open
    have hx1 := (box_after hb).cell 1
    have hb2 : Below W.heap.size W w2 := ((Below.refl _ _).alloc (Nat.le_refl _) _).trans (hb.mono (by simp))
    have HN := Lib.hid hn1
    clear h hb hn1
    go_wp2_with fail
    refine (heads_any w2).mono ?_
    rintro en w3 ⟨rfl, hb3⟩
    go_wp2
    go_ret
    exact ⟨rfl, hb2.trans (hb3.mono hb2.size)⟩
set_option maxRecDepth 100000 in
set_option maxHeartbeats 8000000 in
theorem pgoes_in (g t k : Nat) (he64 : e < 18446744073709551616) (hr : Hid (Reads W W.heap.size 2 A n (mcells ms))) (h64 : M64 ms) (hc : n ≤ cap) (hm : cap ≤ maxLen) (hk : chk ms = true) (h1 : g < 64) (h2 : 1 ≤ t) (h3 : t ≤ 255) (hf : t ≤ wts ms) (hkn : k < n) :
    Calls Try.prog 6 #[mapV e A n cap, .int .i64 g, .int .i64 t, .int .i64 (k : Int)] W fun e w' => e = .returned (.bool true) ∧ Below W.heap.size W w' := by
  obtain ⟨hU, hn32⟩ := chk_up hk
  have hl : ms.length = n := by have := hr.out.1; rw [mcells_len] at this; omega
  have hxm : ms.getD k (0, 0) ∈ ms := by rw [List.getD_eq_getElem?_getD, List.getElem?_eq_getElem (by omega)]; exact List.getElem_mem _
  have hxr := hU.2 _ hxm
  have hk' := chk_put (ms.getD k (0, 0)).1 0 (by omega) hk
  have hU' := (chk_up hk').1
  have hgm := fun hf' => goes_math (cF g) hU hxm hf hf' (fun r y q1 q2 q3 => by unfold cF; rw [q3]; exact cost_falls _ q1 q2)
  have H1 := Lib.hid (fun W h => nodes_ok e A n cap ms g t W h h64 hc hm hk h1 h2 h3 hf)
  have HT := Lib.hid (fun W h => with_set e A n cap ms (ms.getD k (0, 0)).1 0 W k he64 h h64 hc hm hk hkn rfl (by omega) (by omega))
  have H2 := Lib.hid (fun hf' e' A' n' cap' W h h4 h5 => nodes_ok e' A' n' cap' (ms.map (put (ms.getD k (0, 0)).1 0)) g t W h (up_64 hU') h4 h5 hk' h1 h2 h3 hf')
  have H3 := Lib.hid (fun hf' e' A' n' cap' W h h4 h5 => nodes_few e' A' n' cap' (ms.map (put (ms.getD k (0, 0)).1 0)) g t W h (up_64 hU') h4 h5 hk' h1 h2 h3 hf')
  have H4 := Lib.hid (fun e' A' n' cap' W h h4 h5 => weights_any e' A' n' cap' (ms.map (put (ms.getD k (0, 0)).1 0)) W h h4 h5)
  have hpl := picks_length (c := cF g) ms t
  have hpl' := picks_length (c := cF g) (ms.map (put (ms.getD k (0, 0)).1 0)) t
  generalize ms.map (put (ms.getD k (0, 0)).1 0) = ms' at *
  generalize picks (cF g) ms t = l at *
  generalize picks (cF g) ms' t = l' at *
  have hrm := fun w' (hb : Below W.heap.size W w') => (hr.out.below hb).mem hkn
  generalize ms.getD k (0, 0) = x at *
  obtain ⟨id, wt⟩ := x
  simp only at hxr hrm hgm HT
  have HRM := Lib.hid hrm
  have HGM := Lib.hid hgm
  have HPL := Lib.hid hpl
  have HPL' := Lib.hid hpl'
  have d2 : decide ((n : Int) ≤ (k : Int)) = false := decide_eq_false (by omega)
  have d3 : decide (n ≤ k) = false := decide_eq_false (by omega)
  unfold maxLen at hm
  clear hU hl hxm hgm hk' hU' hk hpl hpl' hf hrm h64
  obtain ⟨e', ee⟩ : ∃ e', (e + 1) % 18446744073709551616 = e' := ⟨_, rfl⟩
  rw [ee] at HT
  clear ee
  unfold mapV at H1 H2 H3 H4 HT ⊢
  go_enter Try.func6, Try.ntmps6
  go_wp2_with fail
  refine (H1.out _ (Lib.hid ((hr.out.alloc (Nat.le_refl _) _).more (by simp)))).mono ?_
  intro en w2 h
  obtain ⟨v1, rfl, ho, hb⟩ := h
  rw [HPL.out] at ho
  obtain ⟨g0, c1, rfl, _, _⟩ := World.ownsRow.form ho (by omega)
  obtain ⟨hc1, hm1'⟩ : t ≤ c1 ∧ c1 ≤ maxLen := by
    obtain ⟨_, _, ev, q1, q2⟩ := own_slice ho
    injection ev with _ _ ev
    subst ev
    exact ⟨q1, q2⟩
  have R1 := Lib.hid (Reads.of_own ho)
  have hx := box_after hb
  have hx0 := hx.cell 0
  have hx1 := hx.cell 1
  have hxs := hx.lt
  have hb2 : Below W.heap.size W w2 := ((Below.refl _ _).alloc (Nat.le_refl _) _).trans (hb.mono (by simp))
  have HR := Lib.hid ((hr.out.below hb2).more hb2.size)
  obtain ⟨ad, rfl, had, k1, k2⟩ := HRM.out w2 hb2
  have hads : ad.block < w2.heap.size := Nat.lt_of_lt_of_le had hb2.size
  clear hb H1 hx ho HRM
  have HB2 := Lib.hid hb2
  clear hb2
  have dK : decide ((k : Int) < 0) = false := decide_eq_false (by omega)
  go_wp2_with fail
  have hb3 : Below w2.heap.size w2 (w2.alloc (.cells #[.int .i64 id, .int .i64 wt] 41)) := (Below.refl _ _).alloc (Nat.le_refl _) _
  have hBX : Blk (w2.alloc (.cells #[.int .i64 id, .int .i64 wt] 41)) w2.heap.size 41 #[.int .i64 id, .int .i64 wt] := Blk.new w2 _ _
  have R3 := hgrow R1 hb3
  have HR3 := hgrow HR hb3
  have HB3 := Lib.hid (HB2.out.trans (hb3.mono HB2.out.size))
  obtain ⟨bx, ebx⟩ : ∃ b, w2.heap.size = b := ⟨_, rfl⟩
  rw [ebx] at hBX ⊢
  have BX := Lib.hid hBX
  have hbx : W.heap.size < bx := by omega
  clear hb3 hBX hx0 hx1 k1 k2 R1 HR HB2 hxs hads d2 d3
  generalize w2.alloc (.cells #[.int .i64 id, .int .i64 wt] 41) = w3 at *
  refine (HT.out w3 HR3).mono ?_
  rintro en w4 ⟨A4, n4, c4, rfl, hr4, hc4, hm4, hb⟩
  have R4 := hgrow R3 hb
  have HB4 := Lib.hid (HB3.out.trans (hb.mono HB3.out.size))
  have BX4 := Lib.hid (BX.out.below hb BX.out.lt)
  clear hb R3 HR3 HB3 BX HT
  unfold mapV
  go_wp2_with fail
  have hBM : Blk (w4.alloc (.cells #[.int .u64 (e' : Int), .slice A4 n4 c4] 25)) w4.heap.size 25 #[.int .u64 (e' : Int), .slice A4 n4 c4] := Blk.new w4 _ _
  obtain ⟨bm, ebm⟩ : ∃ b, w4.heap.size = b := ⟨_, rfl⟩
  have BM := Lib.hid hBM
  clear hBM
  have hb5 : Below w4.heap.size w4 (w4.alloc (.cells #[.int .u64 (e' : Int), .slice A4 n4 c4] 25)) := (Below.refl _ _).alloc (Nat.le_refl _) _
  have R5 := hgrow R4 hb5
  have hr5 := hgrow hr4 hb5
  have HB5 := Lib.hid (HB4.out.trans (hb5.mono HB4.out.size))
  have BX5 := Lib.hid (BX4.out.below hb5 BX4.out.lt)
  clear hb5 R4 hr4 HB4 BX4
  generalize w4.alloc (.cells #[.int .u64 (e' : Int), .slice A4 n4 c4] 25) = w5 at *
  rw [ebm] at BM ⊢
  clear ebm
  by_cases hf' : wts ms' < t
  · refine (H3.out hf' e' A4 n4 c4 w5 hr5 hc4 hm4).mono ?_
    rintro en w6 ⟨v6, rfl, ho, hb⟩
    have HB6 := Lib.hid (HB5.out.trans (hb.mono HB5.out.size))
    have hr6 := hgrow hr5 hb
    have BM6 := Lib.hid (BM.out.below hb BM.out.lt)
    have m0 := BM6.out.cell 0
    have m1 := BM6.out.cell 1
    clear hb ho R5 hr5 HB5 BX5 H2 H3 BM
    go_wp2_with fail
    refine (H4.out e' A4 n4 c4 w6 hr6.out hc4 hm4).mono ?_
    rintro en w7 ⟨rfl, hb⟩
    have HB7 := HB6.out.trans (hb.mono HB6.out.size)
    generalize wts ms' = cw at *
    have d1 : decide (cw < t) = true := decide_eq_true hf'
    have d2 : decide ((cw : Int) < (t : Int)) = true := decide_eq_true (by omega)
    clear m0 m1 hb
    go_wp2_with fail
    refine (heads_any w7).mono ?_
    rintro en w8 ⟨rfl, hb8⟩
    go_wp2
    go_ret
    exact ⟨rfl, HB7.trans (hb8.mono HB7.size)⟩
  · have hgm := HGM.out (by omega)
    refine (H2.out (by omega) e' A4 n4 c4 w5 hr5 hc4 hm4).mono ?_
    rintro en w6 ⟨v6, rfl, ho, hb⟩
    rw [HPL'.out] at ho
    obtain ⟨g6, c6, rfl, _, _⟩ := World.ownsRow.form ho (by omega)
    obtain ⟨hc6, hm6⟩ : t ≤ c6 ∧ c6 ≤ maxLen := by
      obtain ⟨_, _, ev, q1, q2⟩ := own_slice ho
      injection ev with _ _ ev
      subst ev
      exact ⟨q1, q2⟩
    have RK := Lib.hid (Reads.of_own ho)
    have RL := hgrow R5 hb
    have HB6 := Lib.hid (HB5.out.trans (hb.mono HB5.out.size))
    have BX6 := Lib.hid (BX5.out.below hb BX5.out.lt)
    have HG1 := Lib.hid hgm.1
    have HG2 := Lib.hid hgm.2
    clear hb ho R5 hr5 HB5 BX5 H2 H3 H4 BM HGM hgm hf'
    go_wp2
    go_loopw [16, 17] (fun vg vi wr => ∃ i d : Nat, i ≤ t ∧ vi = .int .i64 i ∧ vg = .int .i64 (lost l' l i : Nat) ∧ wr = w6.drewN d) (fun _ vi _ => t - (intOf vi).toNat)
    case atStart => exact ⟨0, 0, by omega, rfl, rfl, rfl⟩
    case round =>
      obtain ⟨i, d, hi, rfl, rfl, rfl⟩ := hrel
      have hll := lost_le l' l i
      have hx0 := BX6.out.cell 0
      have hx0 : w6.cell? ⟨bx, 0, none⟩ = some (.int .i64 id) := hx0
      by_cases hit : i < t
      · obtain ⟨a1, ea1, _, hcl⟩ := RK.out.intD hit
        injection ea1 with ea1
        subst ea1
        have e1 : (⟨g6, 0, none⟩ : Addr).add i = ⟨g6, i, none⟩ := by unfold Addr.add; split <;> simp_all
        rw [e1] at hcl
        have hls := lost_succ l' l i (by have := HPL'.out; omega)
        have hne := HG2.out i hit
        generalize l'.getD i 0 = z at *
        have f1 : (z == id) = false := by simpa using hne
        have hA := fun dq => among_any z (some ⟨g0, 0, none⟩) t c1 l (w6.drewN dq) (Lib.hid (RL.out.drewN dq)) (by omega)
        clear e1 hne
        cases hcon : l.contains z
        · simp only [hcon] at hA
          rw [hcon, if_neg (by decide)] at hls
          have Q := Lib.hid hls
          have HA := Lib.hid hA
          generalize lost l' l i = cn at *
          clear hls hA hcon
          go_wp2
          go_quiet (fail)
          go_wp2_with fail
          refine (HA.out _).mono ?_
          rintro en w' ⟨rfl, rfl⟩
          go_wp2
          exact ⟨⟨i + 1, _, by omega, by go_num, by rw [Q.out]; go_num, rfl⟩, by simp [intOf]; omega⟩
        · simp only [hcon] at hA
          rw [hcon, if_pos rfl] at hls
          have Q := Lib.hid hls
          have HA := Lib.hid hA
          generalize lost l' l i = cn at *
          clear hls hA hcon
          go_wp2
          go_quiet (fail)
          go_wp2_with fail
          refine (HA.out _).mono ?_
          rintro en w' ⟨rfl, rfl⟩
          go_wp2
          exact ⟨⟨i + 1, _, by omega, by go_num, by rw [Q.out]; rfl, rfl⟩, by simp [intOf]; omega⟩
      · obtain rfl : t = i := by omega
        have hA := fun dq => among_any id (some ⟨g0, 0, none⟩) t c1 l (w6.drewN dq) (Lib.hid (RL.out.drewN dq)) (by omega)
        have hg1 := HG1.out
        have hbd := bel_drewN HB6.out d
        cases hcon : l.contains id
        · simp only [hcon] at hA
          rw [hcon, if_neg (by decide)] at hg1
          rw [hg1]
          have HA := Lib.hid hA
          clear hA hcon hg1 hll
          go_wp2_with fail
          refine (HA.out _).mono ?_
          rintro en w' ⟨rfl, rfl⟩
          go_wp2_with fail
          refine (heads_any _).mono ?_
          rintro en w8 ⟨rfl, hb8⟩
          go_wp2
          go_ret
          exact ⟨rfl, hbd.trans (hb8.mono hbd.size)⟩
        · simp only [hcon] at hA
          rw [hcon, if_pos rfl] at hg1
          rw [hg1]
          have HA := Lib.hid hA
          clear hA hcon hg1 hll
          go_wp2_with fail
          refine (HA.out _).mono ?_
          rintro en w' ⟨rfl, rfl⟩
          go_wp2_with fail
          refine (heads_any _).mono ?_
          rintro en w8 ⟨rfl, hb8⟩
          go_wp2
          go_ret
          exact ⟨rfl, hbd.trans (hb8.mono hbd.size)⟩
end
theorem walk_PlaceGoes {H : Type} {enc : TypeId × Value → H} (W : World) (v : Value) (d : DataW H) (p : List MemPlace) (hm : DataW.Trod enc Try.prog W 0 (fun _ => true) true 25 v d p) (hok : Value.okWide Try.prog W .any 0 25 v)
    (g : Int) (wg : Lit.wf (.int .i64 g)) (t : Int) (wt : Lit.wf (.int .i64 t)) (a : Int) (wa : Lit.wf (.int .i64 a)) :
    Calls Try.prog 6 #[v, .int .i64 g, .int .i64 t, .int .i64 a] W fun e w' => e = .returned (.bool true) ∧ Below W.heap.size W w' := by
  obtain ⟨e, A, n, cap, ms, rfl, he, hr, h64, hc, hm'⟩ := open_map hok hm
  by_cases h0 : (nodesR ms g t).2 ≠ 0 ∨ a < 0 ∨ (n : Int) ≤ a
  · exact pgoes_out e A n cap ms W g t a hr h64 hc hm' h0
  · have h1 : (nodesR ms g t).2 = 0 := by omega
    obtain ⟨k, rfl⟩ := Int.eq_ofNat_of_zero_le (show 0 ≤ a by omega)
    obtain ⟨g', t', rfl, rfl, hk, q1, q2, q3, q4⟩ := nodesR_good h1
    exact pgoes_in e A n cap ms W g' t' k he hr h64 hc hm' hk q1 q2 q3 q4 (by omega)
namespace placeGoes
open Go.ChangeShapes Go.WideShapes Go.ChangeAt Go.RowKit
open Go.ChangeMaps (open_string shut_string)
set_option linter.unusedVariables false
theorem own : ownKnob Try.prog.godebug = none := by kernel_rfl
theorem laidOut : laidOutB Try.prog = true := by kernel_rfl
set_option maxRecDepth 100000 in
theorem contract (H : Type) (enc : TypeId × Value → H) (W : World) (base : Nat) (args : Array Value) (ds gs : List (DataW H)) (before : List MemPlace)
    (hval0 : ∀ (j : Nat) t v, Try.f6.params[j]? = some t → args[j]? = some v → Value.okWide Try.prog W .any base t v)
    (hW : DataW.Whole enc Try.prog Try.f6.params.toList Rows.placeGoesSpec.vars false W args.toList ds gs before) :
    Calls Try.prog 6 args W fun e W' => ∃ v, e = .returned v ∧ Rows.placeGoesSpec.post enc Try.prog Try.f6 false true false false W args v W' := by
  have hval : ∀ (j : Nat) t v, Try.f6.params[j]? = some t → args[j]? = some v → Value.okWide Try.prog W .any base t v := hval0
  have hW' := hW
  obtain ⟨p, q, hA0, hV, rfl, hfz, hnd⟩ := hW
  have hA : DataW.TrodAll enc Try.prog W 0 (fun _ => true) true Try.f6.params.toList args.toList ds p := hA0
  rw [Try.params6] at hA hval
  obtain ⟨v0, vs0, d0, ds0, p0, q0, hargs, rfl, rfl, h0, r0⟩ := trodAll_cons hA
  obtain ⟨v1, vs1, d1, ds1, p1, q1, rfl, rfl, rfl, h1, r1⟩ := trodAll_cons r0
  obtain ⟨v2, vs2, d2, ds2, p2, q2, rfl, rfl, rfl, h2, r2⟩ := trodAll_cons r1
  obtain ⟨v3, vs3, d3, ds3, p3, q3, rfl, rfl, rfl, h3, r3⟩ := trodAll_cons r2
  obtain ⟨rfl, rfl, rfl⟩ := trodAll_nil r3
  obtain rfl : args = #[v0, v1, v2, v3] := by cases args; simp_all
  obtain ⟨rfl, rfl⟩ := trodVars_none hV
  have k0 := h0
  have lt0 : ∀ x ∈ p0, x.block < W.heap.size := by obtain ⟨m, hm⟩ := k0; exact DataW.trod_lt m _ _ _ hm
  have k1 := h1
  have lt1 : ∀ x ∈ p1, x.block < W.heap.size := by obtain ⟨m, hm⟩ := k1; exact DataW.trod_lt m _ _ _ hm
  have k2 := h2
  have lt2 : ∀ x ∈ p2, x.block < W.heap.size := by obtain ⟨m, hm⟩ := k2; exact DataW.trod_lt m _ _ _ hm
  have k3 := h3
  have lt3 : ∀ x ∈ p3, x.block < W.heap.size := by obtain ⟨m, hm⟩ := k3; exact DataW.trod_lt m _ _ _ hm
  obtain ⟨a1, rfl, rfl, rfl, w1⟩ := open_int Try.underlying3 (hval 1 3 v1 rfl rfl) h1
  obtain ⟨a2, rfl, rfl, rfl, w2⟩ := open_int Try.underlying3 (hval 2 3 v2 rfl rfl) h2
  obtain ⟨a3, rfl, rfl, rfl, w3⟩ := open_int Try.underlying3 (hval 3 3 v3 rfl rfl) h3
  clear hA0 hval0
  refine (walk_PlaceGoes W v0 d0 p0 h0 (hval 0 25 v0 rfl rfl) a1 w1 a2 w2 a3 w3).mono fun e W' ⟨he, bel⟩ => ?_
  subst he
  exact ⟨_, rfl, _, _, _, [], _, [], hW', trodAll_mk1 (shut_bool Try.underlying4 _), (trodAll_cons_mk (Below.trod laidOut (by kernel_rfl) (of_decide_eq_true (by kernel_rfl)) k0 bel lt0) (trodAll_cons_mk (Below.trod laidOut (by kernel_rfl) (of_decide_eq_true (by kernel_rfl)) k1 bel lt1) (trodAll_cons_mk (Below.trod laidOut (by kernel_rfl) (of_decide_eq_true (by kernel_rfl)) k2 bel lt2) (trodAll_cons_mk (Below.trod laidOut (by kernel_rfl) (of_decide_eq_true (by kernel_rfl)) k3 bel lt3) trodAll_mk0)))), rfl, bel.frame _, fun h => by cases h⟩
set_option maxRecDepth 100000 in
theorem lifted (os : Os) (started : os.Started) (H : Type) (enc : TypeId × Value → H) :
    ReturnsInHanded {} Try.checked os 6 .any (Rows.placeGoesSpec.pre6 enc Try.prog Try.f6 Rows.placeGoesRow.domain false) (Rows.placeGoesSpec.post enc Try.prog Try.f6 false true false false) := by
  refine returnsInHanded_of_change (C := Try.checked) own started (by kernel_rfl) Try.func6
    (ChangeSpec.witness6 (enc := enc) (C := Try.checked) false ⟨#[], #[.agg #[.int .u64 0, .slice none 0 0], .int .i64 0, .int .i64 0, .int .i64 0], []⟩ 8 (by kernel_rfl) (by kernel_rfl) (by kernel_rfl) (by kernel_rfl)) ?_
  intro W base args ds gs before hval hW _ _
  exact contract H enc W base args ds gs before hval hW
theorem over : Rows.placeGoesRow.holds Try.pinned (OpenSpec.ofChange Rows.placeGoesSpec) :=
  OpenClaim.holds_of_wide 6 Try.f6 rfl rfl rfl rfl rfl rfl rfl ⟨rfl, rfl, rfl, rfl, rfl⟩ rfl rfl rfl rfl rfl (by kernel_rfl) Try.func6 (by kernel_rfl)
    (of_decide_eq_true (by kernel_rfl)) (by unfold Func.isWrapper; first | (rw [if_pos (by decide +kernel)]; kernel_rfl) | (rw [if_neg (by decide +kernel)]; exact ⟨rfl, rfl⟩))
    (fun os started H enc _ => lifted os started H enc)
/-- THE STATEMENT. -/
theorem proved : Rows.PlaceGoesSaid := over
end placeGoes
end Go.Proofs.Ytmdffmajnbokeaa
