/-
  The law StrawMoves: its walk, and the statement.
-/
import Derived.Test.YtgcilbmdgfeojaaStrW6
namespace Go.Proofs.Ytgcilbmdgfeojaa
open Go.RowKit StrMath
set_option linter.unusedVariables false
theorem Try.infoI64 : (Try.prog.info? 3).map (fun i => (i.zero, i.size, i.bytes)) = some (some (.int .i64 0), 1, 8) := by kernel_rfl
theorem u64_nat {b : Int} (h : Lit.wf (.int .u64 b)) : ∃ n : Nat, b = n ∧ n < 18446744073709551616 := by
  have : 0 ≤ b ∧ b ≤ 18446744073709551615 := by simpa [Lit.wf, IntKind.min, IntKind.max, IntKind.signed, IntKind.bits] using h
  exact ⟨b.toNat, by omega, by omega⟩
theorem iv_one (xs : List Int) : ∀ u ∈ xs.map iv, u.oneCell' = true := by
  intro u hu
  obtain ⟨x, _, rfl⟩ := List.mem_map.1 hu
  rfl
theorem getD_set (ws : List Int) (k j : Nat) (y : Int) (hk : k < ws.length) : (ws.set k y).getD j 0 = if j = k then y else ws.getD j 0 := by
  rw [List.getD_eq_getElem?_getD, List.getD_eq_getElem?_getD, List.getElem?_set]
  by_cases h : k = j
  · subst h; simp [hk]
  · rw [if_neg h, if_neg (fun e => h e.symm)]
theorem set_i64 {ws : List Int} (h : I64 ws) (k : Nat) {y : Int} (hy : 0 ≤ y ∧ y ≤ 65535) : I64 (ws.set k y) := by
  intro x hx
  rcases List.mem_or_eq_of_mem_set hx with h1 | h1
  · exact h x h1
  · omega
theorem pick_up (ids ws : List Int) (x r n k : Nat) (y : Int) (hk : k < ws.length) (h : ws.getD k 0 ≤ y) :
    (pick ids (ws.set k y) x r n).1 = (pick ids ws x r n).1 ∨ (pick ids (ws.set k y) x r n).1 = k := by
  unfold pick
  refine pk_moves _ _ _ _ k n (fun j hj => ?_) (fun j hj => ?_) (fun ha => ?_)
  · unfold act; rw [getD_set ws k j y hk, if_neg hj]
  · unfold cst; rw [getD_set ws k j y hk, if_neg hj]
  · unfold act at ha ⊢
    unfold cst
    rw [getD_set ws k k y hk, if_pos rfl]
    have ha : 1 ≤ ws.getD k 0 := by simpa using ha
    exact ⟨decide_eq_true (by omega), cost_falls _ ha h⟩
theorem set_back (ws : List Int) (k : Nat) (y : Int) (hk : k < ws.length) : (ws.set k y).set k (ws.getD k 0) = ws := by
  apply List.ext_getElem?
  intro j
  rw [List.set_set, List.getElem?_set]
  by_cases h : k = j
  · subst h; rw [if_pos rfl, if_pos hk, List.getD_eq_getElem?_getD, List.getElem?_eq_getElem hk]; rfl
  · rw [if_neg h]
theorem pick_down (ids ws : List Int) (x r n k : Nat) (y : Int) (hk : k < ws.length) (h : y ≤ ws.getD k 0) :
    (pick ids (ws.set k y) x r n).1 = (pick ids ws x r n).1 ∨ (pick ids ws x r n).1 = k := by
  have := pick_up ids (ws.set k y) x r n k (ws.getD k 0) (by rw [List.length_set]; exact hk) (by rw [getD_set ws k k y hk, if_pos rfl]; exact h)
  rw [set_back ws k y hk] at this
  rcases this with h | h
  · exact .inl h.symm
  · exact .inr h
def goodW (ws : List Int) (k : Nat) : Prop := ∀ j, j < k → 0 ≤ ws.getD j 0 ∧ ws.getD j 0 ≤ 65535
set_option maxRecDepth 100000 in
theorem moves_out (A B : Option Addr) (n c1 m c2 : Nat) (at_ more : Int) (x r : Nat) (W : World) (hn : n ≤ maxLen) (hm : m ≤ maxLen) (h : n ≠ m ∨ at_ < 0 ∨ (n : Int) ≤ at_) :
    Calls Try.prog 6 #[.slice A n c1, .slice B m c2, .int .i64 at_, .int .i64 more, .int .u64 x, .int .u64 r] W fun e w' => e = .returned (.bool true) ∧ Below W.heap.size W w' := by
  unfold maxLen at hn hm
  have aux : ((n != m) = true ∧ ((n : Int) != (m : Int)) = true) ∨ (((n != m) = false ∧ ((n : Int) != (m : Int)) = false) ∧ decide (at_ < 0) = true) ∨
      (((n != m) = false ∧ ((n : Int) != (m : Int)) = false) ∧ decide (at_ < 0) = false ∧ decide ((n : Int) ≤ at_) = true) := by
    simp only [bne_iff_ne, decide_eq_true_eq, decide_eq_false_iff_not, bne_eq_false_iff_eq, ne_eq]
    omega
  clear h
  rcases aux with ⟨d1, d2⟩ | ⟨⟨d1, d2⟩, d3⟩ | ⟨⟨d1, d2⟩, d3, d4⟩
  all_goals
    go_enter Try.func6, Try.ntmps6
    go_wp2_with fail
    refine (heads_any W).mono ?_
    rintro e w' ⟨rfl, hb2⟩
    go_wp2
    go_ret
    exact ⟨rfl, hb2⟩
set_option maxRecDepth 100000 in
set_option maxHeartbeats 1000000 in
theorem moves_in (A B : Option Addr) (n c1 c2 k : Nat) (more : Int) (x r : Nat) (ids ws : List Int) (W : World) (hi : I64 ids) (hw : I64 ws) (h1 : Reads W W.heap.size 1 A n (ids.map iv)) (h2 : Reads W W.heap.size 1 B n (ws.map iv)) (hl : ws.length = n)
    (hx : x < 18446744073709551616) (hr : r < 18446744073709551616) (hn : n ≤ maxLen) (hs : n * 8 ≤ 140737488351232) (hk : k < n) :
    Calls Try.prog 6 #[.slice A n c1, .slice B n c2, .int .i64 (k : Int), .int .i64 more, .int .u64 x, .int .u64 r] W fun e w' => e = .returned (.bool true) ∧ Below W.heap.size W w' := by
  have hn' := hn
  unfold maxLen at hn
  have R1 := Lib.hid h1
  have R2 := Lib.hid h2
  have HL := Lib.hid hl
  clear h1 h2 hl
  have d1 : (n != n) = false := by simp
  have d2 : decide ((n : Int) ≤ (k : Int)) = false := decide_eq_false (by omega)
  have d3 : decide (n ≤ k) = false := decide_eq_false (by omega)
  go_enter Try.func6, Try.ntmps6
  go_wp2
  go_loop [13] (fun vi => ∃ j : Nat, j ≤ n ∧ vi = .int .i64 j ∧ Hid (goodW ws j)) (fun vi => n - (intOf vi).toNat)
  case atStart => exact ⟨0, by omega, rfl, Lib.hid (fun j hj => absurd hj (by omega))⟩
  case round =>
    obtain ⟨j, hj, rfl, hg⟩ := hrel
    by_cases hlt : j < n
    · obtain ⟨a2, rfl, hb2, hc2⟩ := R2.out.intD hlt
      by_cases hgood : 0 ≤ ws.getD j 0 ∧ ws.getD j 0 ≤ 65535
      · have G : Hid (goodW ws (j + 1)) := Lib.hid (fun i hi => by
          by_cases e : i = j
          · rw [e]; exact hgood
          · exact hg.out i (by omega))
        clear hg
        generalize ws.getD j 0 = wt at *
        obtain ⟨g1, g2⟩ := hgood
        have e1 : decide (wt < 0) = false := decide_eq_false (by omega)
        have e2 : decide (65535 < wt) = false := decide_eq_false (by omega)
        go_wp2
        exact ⟨⟨j + 1, by omega, by go_num, G⟩, by simp [intOf]; omega⟩
      · clear hg
        generalize ws.getD j 0 = wt at *
        by_cases e1 : wt < 0
        · have e2 : decide (wt < 0) = true := decide_eq_true e1
          go_wp2_with fail
          refine (heads_any W).mono ?_
          rintro e w' ⟨rfl, hb2⟩
          go_wp2
          go_ret
          exact ⟨rfl, hb2⟩
        · have e2 : decide (wt < 0) = false := decide_eq_false e1
          have e3 : decide (65535 < wt) = true := decide_eq_true (by omega)
          go_wp2_with fail
          refine (heads_any W).mono ?_
          rintro e w' ⟨rfl, hb2⟩
          go_wp2
          go_ret
          exact ⟨rfl, hb2⟩
    · obtain rfl : n = j := by omega
      have g := hg.out k hk
      clear hg
      by_cases hmo : more < 0 ∨ 65535 < more
      · have aux : decide (more < 0) = true ∨ (decide (more < 0) = false ∧ decide (65535 < more) = true) := by
          simp only [decide_eq_true_eq, decide_eq_false_iff_not]; omega
        clear hmo g
        rcases aux with m1 | ⟨m1, m2⟩
        all_goals
          go_wp2_with fail
          refine (heads_any W).mono ?_
          rintro e w' ⟨rfl, hb2⟩
          go_wp2
          go_ret
          exact ⟨rfl, hb2⟩
      · have m1 : decide (more < 0) = false := decide_eq_false (by omega)
        have m2 : decide (65535 < more) = false := decide_eq_false (by omega)
        have hms : 0 ≤ more ∧ more ≤ 65535 := by omega
        clear hmo d1 d2 d3
        have pu := pick_up ids ws x r n k more (by have := HL.out; omega)
        have pd := pick_down ids ws x r n k more (by have := HL.out; omega)
        have hw2 := set_i64 hw k hms
        have co := R2.out
        go_wp2_with fail
        refine (choose_any A B c1 c2 n n x r ids ws W hi hw R1.out R2.out hx hr hn' rfl).mono ?_
        rintro e w1 ⟨rfl, d, rfl⟩
        have hb1 : Below W.heap.size W (W.drewN d) := bel_drewN (Below.refl _ _) d
        have R3 : Hid (Reads (W.drewN d) W.heap.size 1 A n (ids.map iv)) := Lib.hid (R1.out.drewN d)
        have R4 : Hid (Reads (W.drewN d) W.heap.size 1 B n (ws.map iv)) := Lib.hid (R2.out.drewN d)
        generalize W.drewN d = w1 at hb1 R3 R4 ⊢
        clear R1 R2 co
        obtain ⟨p, ep⟩ : ∃ p, (pick ids ws x r n).1 = p := ⟨_, rfl⟩
        rw [ep] at pu pd ⊢
        clear ep
        go_wp2_with (at_builtin
                     refine wpl_append rfl (.tmp 70) (.tmp 71) _ rfl w1 w1.heap.size 3 _ 1 8 Try.underlying27 Try.infoI64 rfl (by decide) (.slice (some ⟨w1.heap.size, 0, none⟩) 0 0) 0 [] rfl ?own (w1.heap.size + 1) B n c2 (ws.map iv) rfl ?rd (iv_one ws) (by omega) (by decide) ?bel ?base ?_
                     case own => exact World.ownsRow_lit _ #[] 0 (Nat.le_refl _) (by unfold maxLen; omega) rfl
                     case rd => exact ((R4.out.more hb1.size).alloc (Nat.le_refl _) _).more (by simp)
                     case bel => exact (Below.refl _ _).alloc (Nat.le_refl _) _
                     case base => simp
                     intro v2 w2 hh
                     have ho := hh.out.1
                     rw [Nat.zero_add, List.nil_append] at ho
                     have hb2 : Below W.heap.size W w2 := hb1.trans (hh.out.2.1.mono hb1.size)
                     have R5 := Lib.hid (R3.out.below (hh.out.2.1.mono hb1.size))
                     clear hh R4
                     obtain ⟨g0, cap, rfl, hlo, hhi⟩ := ho.form (by omega)
                     have hlo2 : W.heap.size ≤ g0 := Nat.le_trans hb1.size hlo
                     have hcell : w2.cell? ⟨g0, k, none⟩ = some (.int .i64 (ws.getD k 0)) := by
                       rw [ho.cellAt k (by omega), List.getElem?_map, List.getD_eq_getElem?_getD, List.getElem?_eq_getElem (by have := HL.out; omega)]
                       rfl
                     have hfr : w2.frozen? ⟨g0, k, none⟩ = false := ho.frozenAt k
                     have hst := (ho.stored k (iv more)).1
                     have hcm : n ≤ cap := by obtain ⟨_, _, hv, h1, _⟩ := own_slice ho; injection hv with _ _ hv; omega
                     rw [show (ws.map iv).set k (iv more) = (ws.set k more).map iv from by rw [List.map_set]] at hst
                     have HO := Lib.hid hst
                     have hb3 : Below W.heap.size W (w2.setCell ⟨g0, k, none⟩ (iv more)) := hb2.setCell hlo2 _
                     have R6 : Hid (Reads (w2.setCell ⟨g0, k, none⟩ (iv more)) W.heap.size 1 A n (ids.map iv)) := Lib.hid (R5.out.setCell hlo2 _)
                     have HB3 := Lib.hid hb3
                     clear ho hst hb3 R5 R3 hb1
                     generalize ws.getD k 0 = old at *
                     have ex : iv more = .int .i64 more := rfl
                     rw [ex] at HO HB3 R6
                     clear ex)
        have hb3 := HB3.out
        clear HB3
        generalize w2.setCell ⟨g0, k, none⟩ (.int .i64 more) = w3 at hb3 HO R6 ⊢
        clear hcell hfr hb2 hlo hhi hlo2
        refine (choose_any A (some ⟨g0, 0, none⟩) c1 cap n n x r ids (ws.set k more) w3 hi hw2 (R6.out.more hb3.size) (Reads.of_own HO.out) hx hr hn' rfl).mono ?_
        rintro e w4 ⟨rfl, d4, rfl⟩
        have hb4 : Below W.heap.size W (w3.drewN d4) := bel_drewN hb3 d4
        generalize w3.drewN d4 = w4 at hb4 ⊢
        clear R6 HO hb3
        generalize (pick ids (ws.set k more) x r n).1 = q at *
        by_cases hge : old ≤ more
        · have f1 : decide (old ≤ more) = true := decide_eq_true hge
          have pu := pu hge
          clear pd
          have aux : (q == p) = true ∨ ((q == p) = false ∧ (q == (k : Int)) = true) := by
            simp only [beq_iff_eq, beq_eq_false_iff_ne]; omega
          clear pu
          rcases aux with f2 | ⟨f2, f3⟩
          all_goals
            go_wp2_with fail
            refine (heads_any w4).mono ?_
            rintro e w' ⟨rfl, hb5⟩
            go_wp2
            go_ret
            exact ⟨rfl, hb4.trans (hb5.mono hb4.size)⟩
        · have f1 : decide (old ≤ more) = false := decide_eq_false hge
          have pd := pd (by omega)
          clear pu
          have aux : (q == p) = true ∨ ((q == p) = false ∧ (p == (k : Int)) = true) := by
            simp only [beq_iff_eq, beq_eq_false_iff_ne]; omega
          clear pd
          rcases aux with f2 | ⟨f2, f3⟩
          all_goals
            go_wp2_with fail
            refine (heads_any w4).mono ?_
            rintro e w' ⟨rfl, hb5⟩
            go_wp2
            go_ret
            exact ⟨rfl, hb4.trans (hb5.mono hb4.size)⟩
theorem walk_StrawMoves (W : World) (A : Option Addr) (n c1 : Nat) (ids : List Int) (hA : Ints .i64 W A n c1 ids) (s : n * 8 ≤ 140737488351232) (B : Option Addr) (m c2 : Nat) (ws : List Int) (hB : Ints .i64 W B m c2 ws) (s' : m * 8 ≤ 140737488351232)
    (at_ : Int) (wa : Lit.wf (.int .i64 at_)) (more : Int) (wm : Lit.wf (.int .i64 more)) (x : Int) (wx : Lit.wf (.int .u64 x)) (r : Int) (wr : Lit.wf (.int .u64 r)) :
    Calls Try.prog 6 #[.slice A n c1, .slice B m c2, .int .i64 at_, .int .i64 more, .int .u64 x, .int .u64 r] W fun e w' => e = .returned (.bool true) ∧ Below W.heap.size W w' := by
  obtain ⟨x, rfl, hx⟩ := u64_nat wx
  obtain ⟨r, rfl, hr⟩ := u64_nat wr
  obtain ⟨hi, hil, hri, hic, him⟩ := hA.i64
  obtain ⟨hw, hwl, hrw, hwc, hwm⟩ := hB.i64
  by_cases h : n ≠ m ∨ at_ < 0 ∨ (n : Int) ≤ at_
  · exact moves_out A B n c1 m c2 at_ more x r W (by omega) (by omega) h
  · obtain rfl : n = m := by omega
    obtain ⟨k, rfl⟩ := Int.eq_ofNat_of_zero_le (show 0 ≤ at_ by omega)
    exact moves_in A B n c1 c2 k more x r ids ws W hi hw hri hrw hwl hx hr (by omega) s (by omega)
namespace strawMoves
open Go.ChangeShapes Go.WideShapes Go.ChangeAt Go.RowKit
open Go.ChangeMaps (open_string shut_string)
set_option linter.unusedVariables false
theorem own : ownKnob Try.prog.godebug = none := by kernel_rfl
theorem laidOut : laidOutB Try.prog = true := by kernel_rfl
set_option maxRecDepth 100000 in
theorem contract (H : Type) (enc : TypeId × Value → H) (W : World) (base : Nat) (args : Array Value) (ds gs : List (DataW H)) (before : List MemPlace)
    (hval0 : ∀ (j : Nat) t v, Try.f6.params[j]? = some t → args[j]? = some v → Value.okWide Try.prog W .any base t v)
    (hW : DataW.Whole enc Try.prog Try.f6.params.toList Rows.strawMovesSpec.vars false W args.toList ds gs before) (hsz : (DataW.weightsEach Try.prog (Try.f6.params.toList ++ Rows.strawMovesSpec.plain.varTypes Try.prog) (ds ++ gs)).all (· ≤ reachBytes) = true) :
    Calls Try.prog 6 args W fun e W' => ∃ v, e = .returned v ∧ Rows.strawMovesSpec.post enc Try.prog Try.f6 false true false false W args v W' := by
  have hval : ∀ (j : Nat) t v, Try.f6.params[j]? = some t → args[j]? = some v → Value.okWide Try.prog W .any base t v := hval0
  have hW' := hW
  obtain ⟨p, q, hA0, hV, rfl, hfz, hnd⟩ := hW
  have hA : DataW.TrodAll enc Try.prog W 0 (fun _ => true) true Try.f6.params.toList args.toList ds p := hA0
  rw [Try.params6] at hA hval
  obtain ⟨v0, vs0, d0, ds0, p0, q0, hargs, rfl, rfl, h0, r0⟩ := trodAll_cons hA
  obtain ⟨v1, vs1, d1, ds1, p1, q1, rfl, rfl, rfl, h1, r1⟩ := trodAll_cons r0
  obtain ⟨v2, vs2, d2, ds2, p2, q2, rfl, rfl, rfl, h2, r2⟩ := trodAll_cons r1
  obtain ⟨v3, vs3, d3, ds3, p3, q3, rfl, rfl, rfl, h3, r3⟩ := trodAll_cons r2
  obtain ⟨v4, vs4, d4, ds4, p4, q4, rfl, rfl, rfl, h4, r4⟩ := trodAll_cons r3
  obtain ⟨v5, vs5, d5, ds5, p5, q5, rfl, rfl, rfl, h5, r5⟩ := trodAll_cons r4
  obtain ⟨rfl, rfl, rfl⟩ := trodAll_nil r5
  obtain rfl : args = #[v0, v1, v2, v3, v4, v5] := by cases args; simp_all
  obtain ⟨rfl, rfl⟩ := trodVars_none hV
  have k0 := h0
  have lt0 : ∀ x ∈ p0, x.block < W.heap.size := by obtain ⟨m, hm⟩ := k0; exact DataW.trod_lt m _ _ _ hm
  have k1 := h1
  have lt1 : ∀ x ∈ p1, x.block < W.heap.size := by obtain ⟨m, hm⟩ := k1; exact DataW.trod_lt m _ _ _ hm
  have k2 := h2
  have lt2 : ∀ x ∈ p2, x.block < W.heap.size := by obtain ⟨m, hm⟩ := k2; exact DataW.trod_lt m _ _ _ hm
  have k3 := h3
  have lt3 : ∀ x ∈ p3, x.block < W.heap.size := by obtain ⟨m, hm⟩ := k3; exact DataW.trod_lt m _ _ _ hm
  have k4 := h4
  have lt4 : ∀ x ∈ p4, x.block < W.heap.size := by obtain ⟨m, hm⟩ := k4; exact DataW.trod_lt m _ _ _ hm
  have k5 := h5
  have lt5 : ∀ x ∈ p5, x.block < W.heap.size := by obtain ⟨m, hm⟩ := k5; exact DataW.trod_lt m _ _ _ hm
  obtain ⟨A0, len0, cap0, rfl⟩ := okWide_slice Try.underlying27 (hval 0 27 v0 rfl rfl)
  obtain ⟨z0, w0⟩ := open_in_ints Try.underlying27 Try.underlying3 (by kernel_rfl) h0
  have s0 := ints_reach (b := 8) Try.underlying27 Try.underlying3 (by kernel_rfl) h0 (fun el sr hd => by have := sized_slice hsz (j := 0) (t := 27) (e := 3) (elems := el) (spare := sr) rfl (by subst hd; rfl) Try.underlying27; rwa [show Try.prog.bytesOf 3 = 8 from by kernel_rfl] at this)
  obtain ⟨A1, len1, cap1, rfl⟩ := okWide_slice Try.underlying27 (hval 1 27 v1 rfl rfl)
  obtain ⟨z1, w1⟩ := open_in_ints Try.underlying27 Try.underlying3 (by kernel_rfl) h1
  have s1 := ints_reach (b := 8) Try.underlying27 Try.underlying3 (by kernel_rfl) h1 (fun el sr hd => by have := sized_slice hsz (j := 1) (t := 27) (e := 3) (elems := el) (spare := sr) rfl (by subst hd; rfl) Try.underlying27; rwa [show Try.prog.bytesOf 3 = 8 from by kernel_rfl] at this)
  obtain ⟨a2, rfl, rfl, rfl, w2⟩ := open_int Try.underlying3 (hval 2 3 v2 rfl rfl) h2
  obtain ⟨a3, rfl, rfl, rfl, w3⟩ := open_int Try.underlying3 (hval 3 3 v3 rfl rfl) h3
  obtain ⟨a4, rfl, rfl, rfl, w4⟩ := open_int Try.underlying22 (hval 4 22 v4 rfl rfl) h4
  obtain ⟨a5, rfl, rfl, rfl, w5⟩ := open_int Try.underlying22 (hval 5 22 v5 rfl rfl) h5
  clear hA0 hval0
  refine (walk_StrawMoves W A0 len0 cap0 z0 w0 s0 A1 len1 cap1 z1 w1 s1 a2 w2 a3 w3 a4 w4 a5 w5).mono fun e W' ⟨he, bel⟩ => ?_
  subst he
  exact ⟨_, rfl, _, _, _, [], _, [], hW', trodAll_mk1 (shut_bool Try.underlying4 _), (trodAll_cons_mk (Below.trod laidOut (by kernel_rfl) (of_decide_eq_true (by kernel_rfl)) k0 bel lt0) (trodAll_cons_mk (Below.trod laidOut (by kernel_rfl) (of_decide_eq_true (by kernel_rfl)) k1 bel lt1) (trodAll_cons_mk (Below.trod laidOut (by kernel_rfl) (of_decide_eq_true (by kernel_rfl)) k2 bel lt2) (trodAll_cons_mk (Below.trod laidOut (by kernel_rfl) (of_decide_eq_true (by kernel_rfl)) k3 bel lt3) (trodAll_cons_mk (Below.trod laidOut (by kernel_rfl) (of_decide_eq_true (by kernel_rfl)) k4 bel lt4) (trodAll_cons_mk (Below.trod laidOut (by kernel_rfl) (of_decide_eq_true (by kernel_rfl)) k5 bel lt5) trodAll_mk0)))))), rfl, bel.frame _, fun h => by cases h⟩
set_option maxRecDepth 100000 in
theorem lifted (os : Os) (started : os.Started) (H : Type) (enc : TypeId × Value → H) :
    ReturnsInHanded {} Try.checked os 6 .any (Rows.strawMovesSpec.pre6 enc Try.prog Try.f6 Rows.strawMovesRow.domain false) (Rows.strawMovesSpec.post enc Try.prog Try.f6 false true false false) := by
  refine returnsInHanded_of_change_sized (C := Try.checked) own started (by kernel_rfl) Try.func6
    (ChangeSpec.witness6 (enc := enc) (C := Try.checked) false ⟨#[], #[.slice none 0 0, .slice none 0 0, .int .i64 0, .int .i64 0, .int .u64 0, .int .u64 0], []⟩ 8 (by kernel_rfl) (by kernel_rfl) (by kernel_rfl) (by kernel_rfl)) ?_
  intro W base args ds gs before hval hW _ hsz _
  exact contract H enc W base args ds gs before hval hW hsz
theorem over : Rows.strawMovesRow.holds Try.pinned (OpenSpec.ofChange Rows.strawMovesSpec) :=
  OpenClaim.holds_of_wide 6 Try.f6 rfl rfl rfl rfl rfl rfl rfl ⟨rfl, rfl, rfl, rfl, rfl⟩ rfl rfl rfl rfl rfl (by kernel_rfl) Try.func6 (by kernel_rfl)
    (of_decide_eq_true (by kernel_rfl)) (by unfold Func.isWrapper; first | (rw [if_pos (by decide +kernel)]; kernel_rfl) | (rw [if_neg (by decide +kernel)]; exact ⟨rfl, rfl⟩))
    (fun os started H enc _ => lifted os started H enc)
/-- THE STATEMENT. -/
theorem proved : Rows.StrawMovesSaid := over
end strawMoves
end Go.Proofs.Ytgcilbmdgfeojaa
