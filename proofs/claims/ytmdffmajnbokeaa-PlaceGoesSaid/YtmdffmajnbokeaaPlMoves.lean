/-
  The law PlaceMoves: its walk, and the statement.
-/
import Derived.Test.YtmdffmajnbokeaaPlW12
import Derived.Test.YtmdffmajnbokeaaPlApart
namespace Go.Proofs.Ytmdffmajnbokeaa
open Go.RowKit StrMath PlMath
set_option linter.unusedVariables false
theorem chkL_put (i w : Int) (hw : 0 ≤ w ∧ w ≤ 65535) (l : List Mem) : ∀ last, chkL l last = true → chkL (l.map (put i w)) last = true := by
  induction l with
  | nil => intro last _; rfl
  | cons a l ih =>
    intro last h
    rw [chkL, Bool.and_eq_true, decide_eq_true_eq] at h
    rw [List.map_cons, chkL, Bool.and_eq_true, decide_eq_true_eq, put_fst]
    refine ⟨⟨h.1.1, h.1.2.1, ?_⟩, ih _ h.2⟩
    unfold put
    split
    · exact hw
    · exact h.1.2.2
theorem chk_put {ms : List Mem} (i w : Int) (hw : 0 ≤ w ∧ w ≤ 65535) (h : chk ms = true) : chk (ms.map (put i w)) = true := by
  unfold chk at h ⊢
  rw [Bool.and_eq_true, decide_eq_true_eq] at h ⊢
  exact ⟨by rw [List.length_map]; exact h.1, chkL_put i w hw ms 0 h.2⟩
theorem up_64 {ms : List Mem} (h : Up ms) : M64 ms := fun x hx => by have := h.2 x hx; omega
theorem cF_falls (g : Nat) {ms : List Mem} {i w : Int} (h : Up ms) (hw : ∀ x ∈ ms, x.1 = i → x.2 ≤ w) : ∀ r, ∀ x ∈ ms, x.1 = i → x.2 ≠ 0 → cF g r (i, w) ≤ cF g r x := fun r x hx e h0 => by
  have := h.2 x hx
  unfold cF
  rw [e]
  exact cost_falls _ (by omega) (hw x hx e)
/-- How many of the first numbers are not among others. -/
def lost (l k : List Int) (i : Nat) : Nat := ((l.take i).filter fun y => !k.contains y).length
theorem lost_succ (l k : List Int) (i : Nat) (h : i < l.length) : lost l k (i + 1) = lost l k i + if k.contains (l.getD i 0) then 0 else 1 := by
  unfold lost
  rw [List.take_succ_eq_append_getElem h, List.filter_append, List.length_append, List.getD_eq_getElem?_getD, List.getElem?_eq_getElem h]
  simp only [Option.getD_some]
  congr 1
  rw [List.filter_cons]
  split <;> split <;> simp_all
theorem lost_le (l k : List Int) (i : Nat) : lost l k i ≤ i := by
  unfold lost
  have := List.length_filter_le (fun y => !k.contains y) (l.take i)
  rw [List.length_take] at this
  omega
section
variable (e : Nat) (A : Option Addr) (n cap : Nat) (ms : List Mem) (W : World)
set_option maxRecDepth 100000 in
theorem pmoves_out1 (g t at_ more : Int) (hr : Hid (Reads W W.heap.size 2 A n (mcells ms))) (h64 : M64 ms) (hc : n ≤ cap) (hm : cap ≤ maxLen) (he : (nodesR ms g t).2 ≠ 0 ∨ at_ < 0 ∨ (n : Int) ≤ at_) :
    Calls Try.prog 8 #[mapV e A n cap, .int .i64 g, .int .i64 t, .int .i64 at_, .int .i64 more] W fun e w' => e = .returned (.bool true) ∧ Below W.heap.size W w' := by
  have H1 := Lib.hid (fun W h => nodes_any e A n cap ms g t W h h64 hc hm)
  generalize nodesR ms g t = R at *
  obtain ⟨l, er⟩ := R
  simp only at he
  have aux : (er != 0) = true ∨ ((er != 0) = false ∧ decide (at_ < 0) = true) ∨ ((er != 0) = false ∧ decide (at_ < 0) = false ∧ decide ((n : Int) ≤ at_) = true) := by
    simp only [bne_iff_ne, decide_eq_true_eq, decide_eq_false_iff_not, bne_eq_false_iff_eq, ne_eq]
    omega
  unfold maxLen at hm
  clear he
  unfold mapV at H1 ⊢
  rcases aux with d1 | ⟨d1, d2⟩ | ⟨d1, d2, d3⟩
  all_goals
    go_enter Try.func8, Try.ntmps8
    go_wp2_with fail
    refine (H1.out _ (Lib.hid ((hr.out.alloc (Nat.le_refl _) _).more (by simp)))).mono ?_
    intro en w2 h
    obtain ⟨A1, n1, c1, rfl, hn1, R1, hc1, hm1, hb⟩ := h.open
    have hx1 := (box_after hb).cell 1
    have hb2 : Below W.heap.size W w2 := ((Below.refl _ _).alloc (Nat.le_refl _) _).trans (hb.mono (by simp))
    have HN := Lib.hid hn1
    clear h hb hn1
    go_wp2_with fail
    refine (heads_any w2).mono ?_
    rintro en w3 ⟨rfl, hb3⟩
    go_wp2
    go_ret
    exact ⟨rfl, hb2.trans (hb3.mono hb2.size)⟩
set_option maxRecDepth 100000 in
theorem pmoves_out2 (g t : Int) (k : Nat) (more : Int) (hr : Hid (Reads W W.heap.size 2 A n (mcells ms))) (h64 : M64 ms) (hc : n ≤ cap) (hm : cap ≤ maxLen) (he : (nodesR ms g t).2 = 0) (hk : k < n) (hmo : more < 0 ∨ 65535 - (ms.getD k (0, 0)).2 < more) (hw : 0 ≤ (ms.getD k (0, 0)).2 ∧ (ms.getD k (0, 0)).2 ≤ 65535) :
    Calls Try.prog 8 #[mapV e A n cap, .int .i64 g, .int .i64 t, .int .i64 (k : Int), .int .i64 more] W fun e w' => e = .returned (.bool true) ∧ Below W.heap.size W w' := by
  have H1 := Lib.hid (fun W h => nodes_any e A n cap ms g t W h h64 hc hm)
  generalize nodesR ms g t = R at *
  obtain ⟨l, er⟩ := R
  simp only at he
  subst he
  have hrm := fun w' (hb : Below W.heap.size W w') => (hr.out.below hb).mem hk
  generalize ms.getD k (0, 0) = x at *
  obtain ⟨id, wt⟩ := x
  simp only at hmo hw hrm
  have HRM := Lib.hid hrm
  have aux : decide (more < 0) = true ∨ (decide (more < 0) = false ∧ decide (65535 - wt < more) = true) := by
    simp only [decide_eq_true_eq, decide_eq_false_iff_not]
    omega
  have d2 : decide ((n : Int) ≤ (k : Int)) = false := decide_eq_false (by omega)
  have d3 : decide (n ≤ k) = false := decide_eq_false (by omega)
  unfold maxLen at hm
  clear hmo hrm
  unfold mapV at H1 ⊢
  rcases aux with d4 | ⟨d4, d5⟩
  all_goals
    go_enter Try.func8, Try.ntmps8
    go_wp2_with fail
    refine (H1.out _ (Lib.hid ((hr.out.alloc (Nat.le_refl _) _).more (by simp)))).mono ?_
    intro en w2 h
    obtain ⟨A1, n1, c1, rfl, hn1, R1, hc1, hm1, hb⟩ := h.open
    have hx1 := (box_after hb).cell 1
    have hb2 : Below W.heap.size W w2 := ((Below.refl _ _).alloc (Nat.le_refl _) _).trans (hb.mono (by simp))
    have HN := Lib.hid hn1
    obtain ⟨ad, rfl, _, k1, k2⟩ := HRM.out w2 hb2
    clear h hb hn1
    go_wp2_with fail
    refine (heads_any w2).mono ?_
    rintro en w3 ⟨rfl, hb3⟩
    go_wp2
    go_ret
    exact ⟨rfl, hb2.trans (hb3.mono hb2.size)⟩
set_option maxRecDepth 100000 in
set_option maxHeartbeats 8000000 in
theorem pmoves_in (g t k : Nat) (more : Int) (he64 : e < 18446744073709551616) (hr : Hid (Reads W W.heap.size 2 A n (mcells ms))) (h64 : M64 ms) (hc : n ≤ cap) (hm : cap ≤ maxLen) (hk : chk ms = true) (h1 : g < 64) (h2 : 1 ≤ t) (h3 : t ≤ 255) (hf : t ≤ wts ms) (hkn : k < n) (hm0 : 0 ≤ more) (hm1 : more ≤ 65535 - (ms.getD k (0, 0)).2) :
    Calls Try.prog 8 #[mapV e A n cap, .int .i64 g, .int .i64 t, .int .i64 (k : Int), .int .i64 more] W fun e w' => e = .returned (.bool true) ∧ Below W.heap.size W w' := by
  obtain ⟨hU, hn32⟩ := chk_up hk
  have hl : ms.length = n := by have := hr.out.1; rw [mcells_len] at this; omega
  have hxm : ms.getD k (0, 0) ∈ ms := by rw [List.getD_eq_getElem?_getD, List.getElem?_eq_getElem (by omega)]; exact List.getElem_mem _
  have hxr := hU.2 _ hxm
  have hwle : ∀ x ∈ ms, x.1 = (ms.getD k (0, 0)).1 → x.2 ≤ (ms.getD k (0, 0)).2 + more := fun x hx e => by
    rw [hU.inj hx hxm e]; omega
  have hwb : 0 ≤ (ms.getD k (0, 0)).2 + more ∧ (ms.getD k (0, 0)).2 + more ≤ 65535 := by omega
  have hfall := cF_falls g hU hwle
  have hf' := Nat.le_trans hf (wts_put hwle)
  have hone := (moves_one (c := cF g) hU hwb hf hf' hwle hfall).1
  have hfirst := moves_first (c := cF g) hU hwb (by omega) hf hf' hwle hfall
  have hk' := chk_put (ms.getD k (0, 0)).1 _ hwb hk
  have hU' := (chk_up hk').1
  have H1 := Lib.hid (fun W h => nodes_ok e A n cap ms g t W h h64 hc hm hk h1 h2 h3 hf)
  have HT := Lib.hid (fun W h => with_set e A n cap ms (ms.getD k (0, 0)).1 ((ms.getD k (0, 0)).2 + more) W k he64 h h64 hc hm hk hkn rfl hwb.1 hwb.2)
  have H2 := Lib.hid (fun e' A' n' cap' W h h4 h5 => nodes_ok e' A' n' cap' _ g t W h (up_64 hU') h4 h5 hk' h1 h2 h3 hf')
  have hpl := picks_length (c := cF g) ms t
  have hpl' := picks_length (c := cF g) (ms.map (put (ms.getD k (0, 0)).1 ((ms.getD k (0, 0)).2 + more))) t
  generalize ms.map (put (ms.getD k (0, 0)).1 ((ms.getD k (0, 0)).2 + more)) = ms' at *
  generalize picks (cF g) ms t = l at *
  generalize picks (cF g) ms' t = l' at *
  have hrm := fun w' (hb : Below W.heap.size W w') => (hr.out.below hb).mem hkn
  generalize ms.getD k (0, 0) = x at *
  obtain ⟨id, wt⟩ := x
  simp only at hm1 hxr hrm hwb hfirst HT
  have HRM := Lib.hid hrm
  have HONE := Lib.hid hone
  have HFIRST := Lib.hid hfirst
  have HPL := Lib.hid hpl
  have HPL' := Lib.hid hpl'
  have d2 : decide ((n : Int) ≤ (k : Int)) = false := decide_eq_false (by omega)
  have d3 : decide (n ≤ k) = false := decide_eq_false (by omega)
  have d4 : decide (more < 0) = false := decide_eq_false (by omega)
  have d5 : decide (65535 - wt < more) = false := decide_eq_false (by omega)
  unfold maxLen at hm
  clear hU hl hxm hwle hfall hone hfirst hk' hU' hk hpl hpl' hf' hf hrm h64
  obtain ⟨e', ee⟩ : ∃ e', (e + 1) % 18446744073709551616 = e' := ⟨_, rfl⟩
  rw [ee] at HT
  clear ee
  unfold mapV at H1 H2 HT ⊢
  go_enter Try.func8, Try.ntmps8
  go_wp2_with fail
  refine (H1.out _ (Lib.hid ((hr.out.alloc (Nat.le_refl _) _).more (by simp)))).mono ?_
  intro en w2 h
  obtain ⟨v1, rfl, ho, hb⟩ := h
  rw [HPL.out] at ho
  obtain ⟨g0, c1, rfl, _, _⟩ := World.ownsRow.form ho (by omega)
  obtain ⟨hc1, hm1'⟩ : t ≤ c1 ∧ c1 ≤ maxLen := by
    obtain ⟨_, _, ev, q1, q2⟩ := own_slice ho
    injection ev with _ _ ev
    subst ev
    exact ⟨q1, q2⟩
  have R1 := Lib.hid (Reads.of_own ho)
  have hx := box_after hb
  have hx0 := hx.cell 0
  have hx1 := hx.cell 1
  have hxs := hx.lt
  have hb2 : Below W.heap.size W w2 := ((Below.refl _ _).alloc (Nat.le_refl _) _).trans (hb.mono (by simp))
  have HR := Lib.hid ((hr.out.below hb2).more hb2.size)
  obtain ⟨ad, rfl, had, k1, k2⟩ := HRM.out w2 hb2
  have hads : ad.block < w2.heap.size := Nat.lt_of_lt_of_le had hb2.size
  clear hb H1 hx ho HRM
  have HB2 := Lib.hid hb2
  clear hb2
  have dK : decide ((k : Int) < 0) = false := decide_eq_false (by omega)
  go_wp2_with fail
  have hb3 : Below w2.heap.size w2 (w2.alloc (.cells #[.int .i64 id, .int .i64 wt] 41)) := (Below.refl _ _).alloc (Nat.le_refl _) _
  have hBX : Blk (w2.alloc (.cells #[.int .i64 id, .int .i64 wt] 41)) w2.heap.size 41 #[.int .i64 id, .int .i64 wt] := Blk.new w2 _ _
  have R3 := hgrow R1 hb3
  have HR3 := hgrow HR hb3
  have HB3 := Lib.hid (HB2.out.trans (hb3.mono HB2.out.size))
  obtain ⟨bx, ebx⟩ : ∃ b, w2.heap.size = b := ⟨_, rfl⟩
  rw [ebx] at hBX ⊢
  have BX := Lib.hid hBX
  have hbx : W.heap.size < bx := by omega
  clear hb3 hBX hx0 hx1 k1 k2 R1 HR HB2 hxs hads d2 d3 d4 d5
  generalize w2.alloc (.cells #[.int .i64 id, .int .i64 wt] 41) = w3 at *
  refine (HT.out w3 HR3).mono ?_
  rintro en w4 ⟨A4, n4, c4, rfl, hr4, hc4, hm4, hb⟩
  have R4 := hgrow R3 hb
  have HB4 := Lib.hid (HB3.out.trans (hb.mono HB3.out.size))
  have BX4 := Lib.hid (BX.out.below hb BX.out.lt)
  clear hb R3 HR3 HB3 BX HT
  unfold mapV
  go_wp2_with fail
  have hb5 : Below w4.heap.size w4 (w4.alloc (.cells #[.int .u64 (e' : Int), .slice A4 n4 c4] 25)) := (Below.refl _ _).alloc (Nat.le_refl _) _
  have R5 := hgrow R4 hb5
  have hr5 := hgrow hr4 hb5
  have HB5 := Lib.hid (HB4.out.trans (hb5.mono HB4.out.size))
  have BX5 := Lib.hid (BX4.out.below hb5 BX4.out.lt)
  clear hb5 R4 hr4 HB4 BX4
  generalize w4.alloc (.cells #[.int .u64 (e' : Int), .slice A4 n4 c4] 25) = w5 at *
  refine (H2.out e' A4 n4 c4 w5 hr5 hc4 hm4).mono ?_
  rintro en w6 ⟨v6, rfl, ho, hb⟩
  rw [HPL'.out] at ho
  obtain ⟨g6, c6, rfl, _, _⟩ := World.ownsRow.form ho (by omega)
  obtain ⟨hc6, hm6⟩ : t ≤ c6 ∧ c6 ≤ maxLen := by
    obtain ⟨_, _, ev, q1, q2⟩ := own_slice ho
    injection ev with _ _ ev
    subst ev
    exact ⟨q1, q2⟩
  have RK := Lib.hid (Reads.of_own ho)
  have RL := hgrow R5 hb
  have HB6 := Lib.hid (HB5.out.trans (hb.mono HB5.out.size))
  have BX6 := Lib.hid (BX5.out.below hb BX5.out.lt)
  clear hb ho R5 hr5 HB5 BX5 H2
  have b1 : (t != t) = false := by simp
  go_wp2
  clear b1
  go_loop [18, 19] (fun vg vi => ∃ i : Nat, i ≤ t ∧ vi = .int .i64 i ∧ vg = .int .i64 (lost l l' i : Nat)) (fun _ vi => t - (intOf vi).toNat)
  case atStart => exact ⟨0, by omega, rfl, rfl⟩
  case round =>
    obtain ⟨i, hi, rfl, rfl⟩ := hrel
    have hll := lost_le l l' i
    by_cases hit : i < t
    · obtain ⟨a1, ea1, _, hcl⟩ := RL.out.intD hit
      injection ea1 with ea1
      subst ea1
      have e1 : (⟨g0, 0, none⟩ : Addr).add i = ⟨g0, i, none⟩ := by unfold Addr.add; split <;> simp_all
      rw [e1] at hcl
      have hls := lost_succ l l' i (by have := HPL.out; omega)
      generalize l.getD i 0 = z at *
      have hA := among_any z (some ⟨g6, 0, none⟩) t c6 l' w6 RK (by omega)
      clear e1
      cases hcon : l'.contains z
      · rw [hcon] at hA
        rw [hcon, if_neg (by decide)] at hls
        have Q := Lib.hid hls
        have HA := Lib.hid hA
        generalize lost l l' i = cn at *
        clear hls hA hcon
        go_wp2_with fail
        refine HA.out.mono ?_
        rintro en w' ⟨rfl, rfl⟩
        go_wp2
        exact ⟨⟨i + 1, by omega, by go_num, by rw [Q.out]; go_num⟩, by simp [intOf]; omega⟩
      · rw [hcon] at hA
        rw [hcon, if_pos rfl] at hls
        have Q := Lib.hid hls
        have HA := Lib.hid hA
        generalize lost l l' i = cn at *
        clear hls hA hcon
        go_wp2_with fail
        refine HA.out.mono ?_
        rintro en w' ⟨rfl, rfl⟩
        go_wp2
        exact ⟨⟨i + 1, by omega, by go_num, by rw [Q.out]; rfl⟩, by simp [intOf]; omega⟩
    · obtain rfl : t = i := by omega
      obtain ⟨p0, q0, ep, eq, hpq⟩ := HFIRST.out
      have hone : lost l l' t ≤ 1 := by
        unfold lost
        rw [List.take_of_length_le (by have := HPL.out; omega)]
        exact HONE.out
      obtain ⟨a1, ea1, _, hp0⟩ := RL.out.intD (show 0 < t by omega)
      injection ea1 with ea1
      subst ea1
      obtain ⟨a2, ea2, _, hq0⟩ := RK.out.intD (show 0 < t by omega)
      injection ea2 with ea2
      subst ea2
      rw [Addr.add_zero', List.getD_eq_getElem?_getD, ep] at hp0
      rw [Addr.add_zero', List.getD_eq_getElem?_getD, eq] at hq0
      simp only [Option.getD_some] at hp0 hq0
      have hx0 := BX6.out.cell 0
      have hx0 : w6.cell? ⟨bx, 0, none⟩ = some (.int .i64 id) := hx0
      generalize lost l l' t = cn at *
      have d6 : decide (cn ≤ 1) = true := decide_eq_true hone
      have d7 : decide ((cn : Int) ≤ 1) = true := decide_eq_true (by omega)
      have aux : (q0 == p0) = true ∨ ((q0 == p0) = false ∧ (q0 == id) = true) := by
        simp only [beq_iff_eq, beq_eq_false_iff_ne]; omega
      have t0 : 0 < t := by omega
      have t1 : (0 : Int) < (t : Int) := by omega
      clear ep eq hpq hone hll
      rcases aux with f1 | ⟨f1, f2⟩
      · go_wp2
        refine wp_region_class (fun w' => Hid (Below W.heap.size W w' ∧ w'.cell? ⟨g0, 0, none⟩ = some (.int .i64 p0) ∧ w'.cell? ⟨g6, 0, none⟩ = some (.int .i64 q0))) (by kernel_rfl) (by kernel_rfl) (Lib.hid ⟨HB6.out.drew, hp0, hq0⟩) ?_
        repeat (first
          | go_big_quiet_skip
          | (go_big_quiet_want; go_big_quiet_op; first
              | go_big_quiet_on
              | (refine ⟨_, fun _ _ => rfl, ?_⟩; go_big_quiet_on)
              | (refine ⟨.int .i64 q0, fun w' hw' => ?_, ?_⟩
                 · simp [hw'.out.2.2]
                   done
                 go_big_quiet_on)
              | (refine ⟨.int .i64 p0, fun w' hw' => ?_, ?_⟩
                 · simp [hw'.out.2.1]
                   done
                 go_big_quiet_on)
              | (refine ⟨.bool true, fun w' hw' => ?_, ?_⟩
                 · go_at_call 16
                   exact (heads_any _).mono (fun e w'' h => ⟨h.1, Lib.hid ⟨hw'.out.1.trans (h.2.mono hw'.out.1.size), cell_later h.2 hw'.out.2.1, cell_later h.2 hw'.out.2.2⟩⟩)
                 go_big_quiet_on)))
        refine wpQuiet_nil ?_
        intro w' hw'
        go_wp2
        go_ret
        exact ⟨rfl, hw'.out.1⟩
      · go_wp2
        go_region_held3 (fun w' => w'.cell? ⟨g0, 0, none⟩ = some (.int .i64 p0) ∧ w'.cell? ⟨g6, 0, none⟩ = some (.int .i64 q0) ∧ w'.cell? ⟨bx, 0, none⟩ = some (.int .i64 id)) (first | go_keep | exact ⟨cell_later hbH (by assumption), cell_later hbH (by assumption), cell_later hbH (by assumption)⟩) (first
          | (go_at_call 16; refine (heads_any _).mono ?_; rintro en w7 ⟨rfl, hbH⟩))
        go_wp2
        go_ret
        exact ⟨rfl, HB6.out.drew.trans (hbH.mono HB6.out.size)⟩
end
theorem walk_PlaceMoves {H : Type} {enc : TypeId × Value → H} (W : World) (v : Value) (d : DataW H) (p : List MemPlace) (hm : DataW.Trod enc Try.prog W 0 (fun _ => true) true 25 v d p) (hok : Value.okWide Try.prog W .any 0 25 v)
    (g : Int) (wg : Lit.wf (.int .i64 g)) (t : Int) (wt : Lit.wf (.int .i64 t)) (a : Int) (wa : Lit.wf (.int .i64 a)) (more : Int) (wm : Lit.wf (.int .i64 more)) :
    Calls Try.prog 8 #[v, .int .i64 g, .int .i64 t, .int .i64 a, .int .i64 more] W fun e w' => e = .returned (.bool true) ∧ Below W.heap.size W w' := by
  obtain ⟨e, A, n, cap, ms, rfl, he, hr, h64, hc, hm'⟩ := open_map hok hm
  by_cases h0 : (nodesR ms g t).2 ≠ 0 ∨ a < 0 ∨ (n : Int) ≤ a
  · exact pmoves_out1 e A n cap ms W g t a more hr h64 hc hm' h0
  · have h1 : (nodesR ms g t).2 = 0 := by omega
    obtain ⟨k, rfl⟩ := Int.eq_ofNat_of_zero_le (show 0 ≤ a by omega)
    obtain ⟨g', t', rfl, rfl, hk, q1, q2, q3, q4⟩ := nodesR_good h1
    have hkn : k < n := by omega
    have hl : ms.length = n := by have := hr.out.1; rw [mcells_len] at this; omega
    have hxr := (chk_up hk).1.2 (ms.getD k (0, 0)) (by rw [List.getD_eq_getElem?_getD, List.getElem?_eq_getElem (by omega)]; exact List.getElem_mem _)
    by_cases h2 : more < 0 ∨ 65535 - (ms.getD k (0, 0)).2 < more
    · exact pmoves_out2 e A n cap ms W g' t' k more hr h64 hc hm' h1 hkn h2 ⟨hxr.2.2.1, hxr.2.2.2⟩
    · exact pmoves_in e A n cap ms W g' t' k more he hr h64 hc hm' hk q1 q2 q3 q4 hkn (by omega) (by omega)
namespace placeMoves
open Go.ChangeShapes Go.WideShapes Go.ChangeAt Go.RowKit
open Go.ChangeMaps (open_string shut_string)
set_option linter.unusedVariables false
theorem own : ownKnob Try.prog.godebug = none := by kernel_rfl
theorem laidOut : laidOutB Try.prog = true := by kernel_rfl
set_option maxRecDepth 100000 in
theorem contract (H : Type) (enc : TypeId × Value → H) (W : World) (base : Nat) (args : Array Value) (ds gs : List (DataW H)) (before : List MemPlace)
    (hval0 : ∀ (j : Nat) t v, Try.f8.params[j]? = some t → args[j]? = some v → Value.okWide Try.prog W .any base t v)
    (hW : DataW.Whole enc Try.prog Try.f8.params.toList Rows.placeMovesSpec.vars false W args.toList ds gs before) :
    Calls Try.prog 8 args W fun e W' => ∃ v, e = .returned v ∧ Rows.placeMovesSpec.post enc Try.prog Try.f8 false true false false W args v W' := by
  have hval : ∀ (j : Nat) t v, Try.f8.params[j]? = some t → args[j]? = some v → Value.okWide Try.prog W .any base t v := hval0
  have hW' := hW
  obtain ⟨p, q, hA0, hV, rfl, hfz, hnd⟩ := hW
  have hA : DataW.TrodAll enc Try.prog W 0 (fun _ => true) true Try.f8.params.toList args.toList ds p := hA0
  rw [Try.params8] at hA hval
  obtain ⟨v0, vs0, d0, ds0, p0, q0, hargs, rfl, rfl, h0, r0⟩ := trodAll_cons hA
  obtain ⟨v1, vs1, d1, ds1, p1, q1, rfl, rfl, rfl, h1, r1⟩ := trodAll_cons r0
  obtain ⟨v2, vs2, d2, ds2, p2, q2, rfl, rfl, rfl, h2, r2⟩ := trodAll_cons r1
  obtain ⟨v3, vs3, d3, ds3, p3, q3, rfl, rfl, rfl, h3, r3⟩ := trodAll_cons r2
  obtain ⟨v4, vs4, d4, ds4, p4, q4, rfl, rfl, rfl, h4, r4⟩ := trodAll_cons r3
  obtain ⟨rfl, rfl, rfl⟩ := trodAll_nil r4
  obtain rfl : args = #[v0, v1, v2, v3, v4] := by cases args; simp_all
  obtain ⟨rfl, rfl⟩ := trodVars_none hV
  have k0 := h0
  have lt0 : ∀ x ∈ p0, x.block < W.heap.size := by obtain ⟨m, hm⟩ := k0; exact DataW.trod_lt m _ _ _ hm
  have k1 := h1
  have lt1 : ∀ x ∈ p1, x.block < W.heap.size := by obtain ⟨m, hm⟩ := k1; exact DataW.trod_lt m _ _ _ hm
  have k2 := h2
  have lt2 : ∀ x ∈ p2, x.block < W.heap.size := by obtain ⟨m, hm⟩ := k2; exact DataW.trod_lt m _ _ _ hm
  have k3 := h3
  have lt3 : ∀ x ∈ p3, x.block < W.heap.size := by obtain ⟨m, hm⟩ := k3; exact DataW.trod_lt m _ _ _ hm
  have k4 := h4
  have lt4 : ∀ x ∈ p4, x.block < W.heap.size := by obtain ⟨m, hm⟩ := k4; exact DataW.trod_lt m _ _ _ hm
  obtain ⟨a1, rfl, rfl, rfl, w1⟩ := open_int Try.underlying3 (hval 1 3 v1 rfl rfl) h1
  obtain ⟨a2, rfl, rfl, rfl, w2⟩ := open_int Try.underlying3 (hval 2 3 v2 rfl rfl) h2
  obtain ⟨a3, rfl, rfl, rfl, w3⟩ := open_int Try.underlying3 (hval 3 3 v3 rfl rfl) h3
  obtain ⟨a4, rfl, rfl, rfl, w4⟩ := open_int Try.underlying3 (hval 4 3 v4 rfl rfl) h4
  clear hA0 hval0
  refine (walk_PlaceMoves W v0 d0 p0 h0 (hval 0 25 v0 rfl rfl) a1 w1 a2 w2 a3 w3 a4 w4).mono fun e W' ⟨he, bel⟩ => ?_
  subst he
  exact ⟨_, rfl, _, _, _, [], _, [], hW', trodAll_mk1 (shut_bool Try.underlying4 _), (trodAll_cons_mk (Below.trod laidOut (by kernel_rfl) (of_decide_eq_true (by kernel_rfl)) k0 bel lt0) (trodAll_cons_mk (Below.trod laidOut (by kernel_rfl) (of_decide_eq_true (by kernel_rfl)) k1 bel lt1) (trodAll_cons_mk (Below.trod laidOut (by kernel_rfl) (of_decide_eq_true (by kernel_rfl)) k2 bel lt2) (trodAll_cons_mk (Below.trod laidOut (by kernel_rfl) (of_decide_eq_true (by kernel_rfl)) k3 bel lt3) (trodAll_cons_mk (Below.trod laidOut (by kernel_rfl) (of_decide_eq_true (by kernel_rfl)) k4 bel lt4) trodAll_mk0))))), rfl, bel.frame _, fun h => by cases h⟩
set_option maxRecDepth 100000 in
theorem lifted (os : Os) (started : os.Started) (H : Type) (enc : TypeId × Value → H) :
    ReturnsInHanded {} Try.checked os 8 .any (Rows.placeMovesSpec.pre6 enc Try.prog Try.f8 Rows.placeMovesRow.domain false) (Rows.placeMovesSpec.post enc Try.prog Try.f8 false true false false) := by
  refine returnsInHanded_of_change (C := Try.checked) own started (by kernel_rfl) Try.func8
    (ChangeSpec.witness6 (enc := enc) (C := Try.checked) false ⟨#[], #[.agg #[.int .u64 0, .slice none 0 0], .int .i64 0, .int .i64 0, .int .i64 0, .int .i64 0], []⟩ 8 (by kernel_rfl) (by kernel_rfl) (by kernel_rfl) (by kernel_rfl)) ?_
  intro W base args ds gs before hval hW _ _
  exact contract H enc W base args ds gs before hval hW
theorem over : Rows.placeMovesRow.holds Try.pinned (OpenSpec.ofChange Rows.placeMovesSpec) :=
  OpenClaim.holds_of_wide 8 Try.f8 rfl rfl rfl rfl rfl rfl rfl ⟨rfl, rfl, rfl, rfl, rfl⟩ rfl rfl rfl rfl rfl (by kernel_rfl) Try.func8 (by kernel_rfl)
    (of_decide_eq_true (by kernel_rfl)) (by unfold Func.isWrapper; first | (rw [if_pos (by decide +kernel)]; kernel_rfl) | (rw [if_neg (by decide +kernel)]; exact ⟨rfl, rfl⟩))
    (fun os started H enc _ => lifted os started H enc)
/-- THE STATEMENT. -/
theorem proved : Rows.PlaceMovesSaid := over
end placeMoves
end Go.Proofs.Ytmdffmajnbokeaa
