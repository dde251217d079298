/-
  The walk of the reference's Nodes.
-/
import Derived.Test.YtmdffmajnbokeaaPlW8
import Derived.Deep.RegionHeld3
namespace Go.Proofs.Ytmdffmajnbokeaa
open Go.RowKit StrMath PlMath
set_option linter.unusedVariables false
theorem iv_one (xs : List Int) : ∀ u ∈ xs.map iv, u.oneCell' = true := by
  intro u hu
  obtain ⟨x, _, rfl⟩ := List.mem_map.1 hu
  rfl
theorem own_list {w : World} {base k : Nat} {t : TypeId} {v : Value} {xs : List Value} {l : List Int} (h : w.ownsRow base t 1 v k xs) (e : xs = l.map iv) : w.ownsRow base t 1 v l.length (l.map iv) := by
  subst e
  have hk : l.length = k := by simpa using h.1
  rw [hk]
  exact h
theorem IRow.reads {w wr : World} {A : Option Addr} {n c : Nat} {l : List Int} (h : IRow w wr (.slice A n c) l) (hn : l.length = n) : Reads wr wr.heap.size 1 A n (l.map iv) := by
  subst hn
  exact Reads.of_own h
theorem wpl_appI {ops : Array Oper} {rest : List Oper} {o : Oper} {a : Act} {Q : Exit → Act → World → Prop} {w wr : World} {cs : Array Value} {vI vW vO : Value} {li lw lo : List Int} (hg : o.guard = none) (s x : Operand)
    (ho : o.op = .call { callee := .builtin .append, args := #[s, x], argTypes := #[26, 26] }) (hst : RSta w cs vI vW vO li lw lo wr) (hl : li.length ≤ 1000) (y : Int) (hs : a.eval s = vI) (hx : a.eval x = .slice (some ⟨wr.heap.size, 0, none⟩) 1 1)
    (h : ∀ v' w', Hid (RSta w cs v' vW vO (li ++ [y]) lw lo w') → wpList Try.prog ops Q rest (a.put o.dst v') w') : wpList Try.prog ops Q (o :: rest) a (wr.alloc (.cells #[.int .i64 y] 3)) := by
  obtain ⟨i, hi, h2, h3, h4⟩ := info_parts Try.infoI64
  have hst' := hst.alloc (.cells #[.int .i64 y] 3)
  exact wpList_append_any _ hg s x 26 ho w.heap.size 3 i (.int .i64 0) 1 8 Try.underlying26 hi h2 h3 h4 rfl (by decide) vI li.length (li.map iv) hs hst'.rI (wr.heap.size + 1) (some ⟨wr.heap.size, 0, none⟩) 1 1 [iv y] hx
    (Reads.lit1 wr 3 (iv y)) (by intro u hu; rw [List.mem_singleton.1 hu]; rfl) (by unfold maxLen; omega) (by omega) hst'.bel.size fun v' w' k1 k2 k3 => h v' w' (Lib.hid (hst'.appI (fun _ => k1) k2 k3))
theorem wpl_appW {ops : Array Oper} {rest : List Oper} {o : Oper} {a : Act} {Q : Exit → Act → World → Prop} {w wr : World} {cs : Array Value} {vI vW vO : Value} {li lw lo : List Int} (hg : o.guard = none) (s x : Operand)
    (ho : o.op = .call { callee := .builtin .append, args := #[s, x], argTypes := #[26, 26] }) (hst : RSta w cs vI vW vO li lw lo wr) (hl : lw.length ≤ 1000) (y : Int) (hs : a.eval s = vW) (hx : a.eval x = .slice (some ⟨wr.heap.size, 0, none⟩) 1 1)
    (h : ∀ v' w', Hid (RSta w cs vI v' vO li (lw ++ [y]) lo w') → wpList Try.prog ops Q rest (a.put o.dst v') w') : wpList Try.prog ops Q (o :: rest) a (wr.alloc (.cells #[.int .i64 y] 3)) := by
  obtain ⟨i, hi, h2, h3, h4⟩ := info_parts Try.infoI64
  have hst' := hst.alloc (.cells #[.int .i64 y] 3)
  exact wpList_append_any _ hg s x 26 ho w.heap.size 3 i (.int .i64 0) 1 8 Try.underlying26 hi h2 h3 h4 rfl (by decide) vW lw.length (lw.map iv) hs hst'.rW (wr.heap.size + 1) (some ⟨wr.heap.size, 0, none⟩) 1 1 [iv y] hx
    (Reads.lit1 wr 3 (iv y)) (by intro u hu; rw [List.mem_singleton.1 hu]; rfl) (by unfold maxLen; omega) (by omega) hst'.bel.size fun v' w' k1 k2 k3 => h v' w' (Lib.hid (hst'.appW (fun _ => k1) k2 k3))
theorem wpl_appO {ops : Array Oper} {rest : List Oper} {o : Oper} {a : Act} {Q : Exit → Act → World → Prop} {w wr : World} {cs : Array Value} {vI vW vO : Value} {li lw lo : List Int} (hg : o.guard = none) (s x : Operand)
    (ho : o.op = .call { callee := .builtin .append, args := #[s, x], argTypes := #[26, 26] }) (hst : RSta w cs vI vW vO li lw lo wr) (hl : lo.length ≤ 1000) (y : Int) (hs : a.eval s = vO) (hx : a.eval x = .slice (some ⟨wr.heap.size, 0, none⟩) 1 1)
    (h : ∀ v' w', Hid (RSta w cs vI vW v' li lw (lo ++ [y]) w') → wpList Try.prog ops Q rest (a.put o.dst v') w') : wpList Try.prog ops Q (o :: rest) a (wr.alloc (.cells #[.int .i64 y] 3)) := by
  obtain ⟨i, hi, h2, h3, h4⟩ := info_parts Try.infoI64
  have hst' := hst.alloc (.cells #[.int .i64 y] 3)
  exact wpList_append_any _ hg s x 26 ho w.heap.size 3 i (.int .i64 0) 1 8 Try.underlying26 hi h2 h3 h4 rfl (by decide) vO lo.length (lo.map iv) hs hst'.rO (wr.heap.size + 1) (some ⟨wr.heap.size, 0, none⟩) 1 1 [iv y] hx
    (Reads.lit1 wr 3 (iv y)) (by intro u hu; rw [List.mem_singleton.1 hu]; rfl) (by unfold maxLen; omega) (by omega) hst'.bel.size fun v' w' k1 k2 k3 => h v' w' (Lib.hid (hst'.appO (fun _ => k1) k2 k3))
section
variable (e : Nat) (A : Option Addr) (n cap : Nat) (ms : List Mem) (g t : Int) (w : World)
set_option maxRecDepth 100000 in
theorem rnodes_map (hr : Hid (Reads w w.heap.size 2 A n (mcells ms))) (h64 : M64 ms) (hc : n ≤ cap) (hm : cap ≤ maxLen) (hk : chk ms = false) :
    Calls Try.prog 10 #[mapV e A n cap, .int .i64 g, .int .i64 t] w (RetI ([], 110) w) := by
  have H := Lib.hid (fun W h => rcheck_any e A n cap ms W h h64 hc hm)
  have E0 : Hid (errM (chk ms) = 110) := Lib.hid (by rw [hk]; rfl)
  clear hk
  unfold mapV
  go_enter Try.func10, Try.ntmps10
  go_wp2_with fail
  refine (H.out _ ((hr.out.alloc (Nat.le_refl _) _).more (by simp))).mono ?_
  rintro e w2 ⟨rfl, hb⟩
  have hb2 : Below w.heap.size w w2 := ((Below.refl _ _).alloc (Nat.le_refl _) _).trans (hb.mono (by simp))
  rw [E0.out]
  clear hb
  go_wp2
  go_ret2
  exact RetI.nil 110 hb2
set_option maxRecDepth 100000 in
theorem rnodes_arg (hr : Hid (Reads w w.heap.size 2 A n (mcells ms))) (h64 : M64 ms) (hc : n ≤ cap) (hm : cap ≤ maxLen) (hk : chk ms = true) (hb : g < 0 ∨ 64 ≤ g ∨ t < 1 ∨ 255 < t) :
    Calls Try.prog 10 #[mapV e A n cap, .int .i64 g, .int .i64 t] w (RetI ([], 2) w) := by
  have H := Lib.hid (fun W h => rcheck_any e A n cap ms W h h64 hc hm)
  have E0 : Hid (errM (chk ms) = 0) := Lib.hid (by rw [hk]; rfl)
  have aux : decide (g < 0) = true ∨ (decide (g < 0) = false ∧ decide (64 ≤ g) = true) ∨ (decide (g < 0) = false ∧ decide (64 ≤ g) = false ∧ decide (t < 1) = true) ∨
      (decide (g < 0) = false ∧ decide (64 ≤ g) = false ∧ decide (t < 1) = false ∧ decide (255 < t) = true) := by
    simp only [decide_eq_true_eq, decide_eq_false_iff_not]; omega
  clear hk hb
  unfold mapV
  rcases aux with d1 | ⟨d1, d2⟩ | ⟨d1, d2, d3⟩ | ⟨d1, d2, d3, d4⟩
  all_goals
    go_enter Try.func10, Try.ntmps10
    go_wp2_with fail
    refine (H.out _ ((hr.out.alloc (Nat.le_refl _) _).more (by simp))).mono ?_
    rintro e w2 ⟨rfl, hb⟩
    have hb2 : Below w.heap.size w w2 := ((Below.refl _ _).alloc (Nat.le_refl _) _).trans (hb.mono (by simp))
    rw [E0.out]
    clear hb
    go_wp2
    go_ret2
    exact RetI.nil 2 hb2
end
section
variable (e : Nat) (A : Option Addr) (n cap : Nat) (ms : List Mem) (g t : Nat) (w : World)
set_option maxRecDepth 100000 in
theorem rnodes_few (hr : Hid (Reads w w.heap.size 2 A n (mcells ms))) (h64 : M64 ms) (hc : n ≤ cap) (hm : cap ≤ maxLen) (hk : chk ms = true) (h1 : g < 64) (h2 : 1 ≤ t) (h3 : t ≤ 255) (hf : wts ms < t) :
    Calls Try.prog 10 #[mapV e A n cap, .int .i64 g, .int .i64 t] w (RetI ([], 111) w) := by
  have H := Lib.hid (fun W h => rcheck_any e A n cap ms W h h64 hc hm)
  have HW := Lib.hid (fun W h => rweights_any e A n cap ms W h hc hm)
  have E0 : Hid (errM (chk ms) = 0) := Lib.hid (by rw [hk]; rfl)
  have d1 : decide ((g : Int) < 0) = false := decide_eq_false (by omega)
  have d2 : decide (64 ≤ (g : Int)) = false := decide_eq_false (by omega)
  have d3 : decide ((t : Int) < 1) = false := decide_eq_false (by omega)
  have d4 : decide (255 < (t : Int)) = false := decide_eq_false (by omega)
  have d2' : decide (64 ≤ g) = false := decide_eq_false (by omega)
  have d3' : decide (t < 1) = false := decide_eq_false (by omega)
  have d4' : decide (255 < t) = false := decide_eq_false (by omega)
  clear hk
  generalize wts ms = c at *
  have d5 : decide (c < t) = true := decide_eq_true hf
  unfold mapV at HW H ⊢
  go_enter Try.func10, Try.ntmps10
  go_wp2_with fail
  refine (H.out _ ((hr.out.alloc (Nat.le_refl _) _).more (by simp))).mono ?_
  rintro e w2 ⟨rfl, hb⟩
  have hb2 : Below w.heap.size w w2 := ((Below.refl _ _).alloc (Nat.le_refl _) _).trans (hb.mono (by simp))
  have hx := box_after hb
  have hx0 := hx.cell 0
  have hx1 := hx.cell 1
  have hs2 := hb.size
  rw [E0.out]
  clear hb hx
  go_wp2_with fail
  refine (HW.out _ ((hr.out.below hb2).more hb2.size)).mono ?_
  rintro e w3 ⟨rfl, hb3⟩
  have hb4 : Below w.heap.size w w3 := hb2.trans (hb3.mono hb2.size)
  clear hb3 hb2 hx0 hx1
  go_wp2
  go_ret2
  exact RetI.nil 111 hb4
end
section
variable (e : Nat) (A : Option Addr) (n cap : Nat) (ms : List Mem) (g t : Nat) (w : World)
set_option maxRecDepth 100000 in
set_option maxHeartbeats 8000000 in
theorem rnodes_ok (hr : Hid (Reads w w.heap.size 2 A n (mcells ms))) (h64 : M64 ms) (hc : n ≤ cap) (hm : cap ≤ maxLen) (hk : chk ms = true) (h1 : g < 64) (h2 : 1 ≤ t) (h3 : t ≤ 255) (hf : t ≤ wts ms) :
    Calls Try.prog 10 #[mapV e A n cap, .int .i64 g, .int .i64 t] w (RetI (picks (cF g) ms t, 0) w) := by
  have H := Lib.hid (fun W h => rcheck_any e A n cap ms W h h64 hc hm)
  have HW := Lib.hid (fun W h => rweights_any e A n cap ms W h hc hm)
  have E0 : Hid (errM (chk ms) = 0) := Lib.hid (by rw [hk]; rfl)
  obtain ⟨hU, hn32⟩ := chk_up hk
  have hl : ms.length = n := by have := hr.out.1; rw [mcells_len] at this; omega
  have hwl := wts_le ms
  rw [hl] at hn32 hwl
  have d1 : decide ((g : Int) < 0) = false := decide_eq_false (by omega)
  have d2 : decide (64 ≤ (g : Int)) = false := decide_eq_false (by omega)
  have d3 : decide ((t : Int) < 1) = false := decide_eq_false (by omega)
  have d4 : decide (255 < (t : Int)) = false := decide_eq_false (by omega)
  have d2' : decide (64 ≤ g) = false := decide_eq_false (by omega)
  have d3' : decide (t < 1) = false := decide_eq_false (by omega)
  have d4' : decide (255 < t) = false := decide_eq_false (by omega)
  have HL := Lib.hid hl
  have HU := Lib.hid hU
  have HF := Lib.hid hf
  clear hk hl hU h64
  obtain ⟨c, ec⟩ : ∃ c, wts ms = c := ⟨_, rfl⟩
  rw [ec] at HW hf hwl
  clear ec
  have d5 : decide (c < t) = false := decide_eq_false (by omega)
  have ht32 : t ≤ 32 := by omega
  unfold maxLen at hm
  unfold mapV at HW H ⊢
  go_enter Try.func10, Try.ntmps10
  go_wp2_with fail
  refine (H.out _ ((hr.out.alloc (Nat.le_refl _) _).more (by simp))).mono ?_
  rintro e' w2 ⟨rfl, hb⟩
  have hb2 : Below w.heap.size w w2 := ((Below.refl _ _).alloc (Nat.le_refl _) _).trans (hb.mono (by simp))
  have hx := box_after hb
  have hx0 := hx.cell 0
  have hx1 := hx.cell 1
  have HX := Lib.hid hx
  have hs2 := hb.size
  rw [E0.out]
  clear hb hx
  go_wp2_with fail
  refine (HW.out _ ((hr.out.below hb2).more hb2.size)).mono ?_
  rintro e' w3 ⟨rfl, hb3⟩
  have hs3 := hb3.size
  simp at hs2
  have HX3 : Hid (Blk w3 w.heap.size 25 #[.int .u64 (e : Int), .slice A n cap]) := Lib.hid (HX.out.below hb3 (by omega))
  have hb4 : Below w.heap.size w w3 := hb2.trans (hb3.mono hb2.size)
  clear hx0 hx1 HX
  have hst0 : Hid (RSta w #[.int .u64 (e : Int), .slice A n cap] (.slice none 0 0) (.slice none 0 0) (.slice none 0 0) ((ms.take 0).map (·.1)) ((ms.take 0).map (·.2)) [] w3) :=
    Lib.hid ⟨hb4, irow_nil _ _, irow_nil _ _, irow_nil _ _, apart_nil _, apart_nil _, apart_nil _, HX3.out⟩
  clear hb3 hb2 hb4 H HW d1 d2 d3 d4 d2' d3' d4' HX3 hs3 hs2
  go_wp2
  clear d5
  go_loopw [8, 9, 10] (fun vi vw vk wr => ∃ k : Nat, k ≤ n ∧ vk = .int .i64 k ∧ Hid (RSta w #[.int .u64 (e : Int), .slice A n cap] vi vw (.slice none 0 0) ((ms.take k).map (·.1)) ((ms.take k).map (·.2)) [] wr)) (fun _ _ vk _ => n - (intOf vk).toNat)
  case atStart => exact ⟨0, by omega, rfl, hst0⟩
  case round =>
    obtain ⟨k, hk, rfl, hst⟩ := hrel
    have hx1 := hst.out.box.cell 1
    by_cases hlt : k < n
    · obtain ⟨ad, rfl, hbl, hc1, hc2⟩ := (hr.out.below hst.out.bel).mem hlt
      have hkl : k < ms.length := by have := HL.out; omega
      have hfe : Hid (((ms.take k).map (·.1)) ++ [(ms.getD k (0, 0)).1] = (ms.take (k + 1)).map (·.1) ∧ ((ms.take k).map (·.2)) ++ [(ms.getD k (0, 0)).2] = (ms.take (k + 1)).map (·.2)) := Lib.hid (by
        rw [List.take_succ_eq_append_getElem hkl, List.map_append, List.map_append, List.getD_eq_getElem?_getD, List.getElem?_eq_getElem hkl]
        exact ⟨rfl, rfl⟩)
      obtain ⟨x, ex⟩ : ∃ x, ms.getD k (0, 0) = x := ⟨_, rfl⟩
      rw [ex] at hc1 hc2 hfe
      obtain ⟨id, wt⟩ := x
      simp only at hc1 hc2 hfe
      have hlen1 : ((ms.take k).map (·.1)).length ≤ 1000 := by rw [List.length_map, List.length_take]; omega
      have hlen2 : ((ms.take k).map (·.2)).length ≤ 1000 := by rw [List.length_map, List.length_take]; omega
      have HL1 := Lib.hid hlen1
      have HL2 := Lib.hid hlen2
      have EX := Lib.hid ex
      clear ex hkl hst0 hlen1 hlen2
      go_wp2_with (first
        | (at_builtin
           refine wpl_appW rfl _ _ rfl hst5.out HL2.out wt rfl rfl ?_
           intro v6 w6 hst6
           clear hst5)
        | (at_builtin
           refine wpl_appI rfl _ _ rfl hst.out HL1.out id rfl rfl ?_
           intro v5 w5 hst5
           have hx2 := hst5.out.box.cell 1
           obtain ⟨ad', ead, _, hc3, hc4⟩ := (hr.out.below hst5.out.bel).mem hlt
           injection ead with ead
           subst ead
           rw [EX.out] at hc3 hc4
           simp only at hc3 hc4
           clear hst hx1 hc1 hc2))
      exact ⟨⟨k + 1, by omega, by go_num, Lib.hid (by rw [← hfe.out.1, ← hfe.out.2]; exact hst6.out)⟩, by simp [intOf]; omega⟩
    · obtain rfl : n = k := by omega
      have hst1 : Hid (RSta w #[.int .u64 (e : Int), .slice A n cap] u8 u9 (.slice none 0 0) ((remL (cF g) ms 0).map (·.1)) ((remL (cF g) ms 0).map (·.2)) (picks (cF g) ms 0) wr) := Lib.hid (by
        have := hst.out
        rw [List.take_of_length_le (by have := HL.out; omega)] at this
        rw [remL_zero]
        exact this)
      clear hst hst0
      go_wp2
      clear hx1
      obtain ⟨wf, ewf⟩ : ∃ wf, wf = wr := ⟨_, rfl⟩
      rw [← ewf] at hst1 ⊢
      clear ewf
      go_loopw [8, 9, 11, 12, 13, 14] (fun vi vw vo vr _ _ wr => ∃ r : Nat, r ≤ t ∧ vr = .int .i64 r ∧ Hid (RSta w #[.int .u64 (e : Int), .slice A n cap] vi vw vo ((remL (cF g) ms r).map (·.1)) ((remL (cF g) ms r).map (·.2)) (picks (cF g) ms r) wr)) (fun _ _ _ vr _ _ _ => t - (intOf vr).toNat)
      case atStart => exact ⟨0, by omega, rfl, hst1⟩
      case round =>
        obtain ⟨r, hr', rfl, hst⟩ := hrel
        clear hst1
        by_cases hrt : r < t
        · obtain ⟨x, hx, _, ex⟩ := best_at (c := cF g) HU.out HF.out hrt
          have hUR := remL_up (c := cF g) HU.out r
          obtain ⟨i, hi, hp, hgi⟩ := rpick hUR g r hx
          have EN := picks_succ (c := cF g) ms r
          have ER := remL_succ (c := cF g) ms r
          rw [ex] at EN ER
          have hfe := filter_erase hUR i hi
          rw [hgi] at hfe
          rw [hfe] at ER
          have hpl := picks_length (c := cF g) ms r
          have hrl : (remL (cF g) ms r).length ≤ n := by rw [← HL.out]; exact List.length_filter_le _ _
          have hxr := hUR.2 x hx.1
          have hI : I64 ((remL (cF g) ms r).map (·.1)) := fun z hz => by
            obtain ⟨y, hy, rfl⟩ := List.mem_map.1 hz
            have := hUR.2 y hy
            omega
          have hW : I64 ((remL (cF g) ms r).map (·.2)) := fun z hz => by
            obtain ⟨y, hy, rfl⟩ := List.mem_map.1 hz
            have := hUR.2 y hy
            omega
          have ED : Hid ((remL (cF g) ms (r + 1)).map (·.1) = ((remL (cF g) ms r).map (·.1)).take i ++ ((remL (cF g) ms r).map (·.1)).drop (i + 1)) := Lib.hid (by rw [ER, List.map_append, List.map_take, List.map_drop])
          have EW : Hid ((remL (cF g) ms (r + 1)).map (·.2) = ((remL (cF g) ms r).map (·.2)).take i ++ ((remL (cF g) ms r).map (·.2)).drop (i + 1)) := Lib.hid (by rw [ER, List.map_append, List.map_take, List.map_drop])
          have hg1 : ((remL (cF g) ms r).map (·.1)).getD i 0 = x.1 := by rw [getD_map_fst, hgi]
          have hl1 : ((remL (cF g) ms r).map (·.1)).length = (remL (cF g) ms r).length := List.length_map ..
          have hl2 : ((remL (cF g) ms r).map (·.2)).length = (remL (cF g) ms r).length := List.length_map ..
          obtain ⟨L, eL⟩ : ∃ L, picks (cF g) ms r = L := ⟨_, rfl⟩
          rw [eL] at EN hpl hst
          obtain ⟨m, em⟩ : ∃ m, (remL (cF g) ms r).length = m := ⟨_, rfl⟩
          rw [em] at hi hp hrl hl1 hl2
          clear ER hfe hgi em eL hx ex
          generalize (remL (cF g) ms r).map (·.1) = li at *
          generalize (remL (cF g) ms r).map (·.2) = lw at *
          have hrI := hst.out.rI
          have hrW := hst.out.rW
          unfold IRow at hrI hrW
          rw [hl1] at hrI
          rw [hl2] at hrW
          obtain ⟨AI, cI, rfl, hcI, hmI⟩ := own_slice hrI
          obtain ⟨AW, cW, rfl, hcW, hmW⟩ := own_slice hrW
          have RI := Lib.hid (Reads.of_own hrI)
          have RW := Lib.hid (Reads.of_own hrW)
          have ENh := Lib.hid EN
          have HP := Lib.hid hp
          have HG1 := Lib.hid hg1
          have HL1 := Lib.hid hl1
          have HL2 := Lib.hid hl2
          have HPL := Lib.hid hpl
          clear EN hp hg1 hl1 hl2 hpl hrI hrW
          go_wp2_with fail
          refine (rchoose_any AI AW cI cW m m g r li lw wr hI hW RI.out RW.out (by omega) (by omega) (by unfold maxLen; omega) rfl).mono ?_
          rintro e' w5 ⟨rfl, d, rfl⟩
          rw [HP.out]
          have HS : Hid (RSta w #[.int .u64 (e : Int), .slice A n cap] (.slice AI m cI) (.slice AW m cW) u11 li lw L (wr.drewN d)) := Lib.hid (hst.out.drewN d)
          have RQ : Hid (Reads (wr.drewN d) wr.heap.size 1 AI m (li.map iv)) := Lib.hid (RI.out.drewN d)
          generalize wr.drewN d = wq at HS RQ ⊢
          obtain ⟨a1, ea1, _, hc1⟩ := RQ.out.intD hi
          subst ea1
          rw [HG1.out] at hc1
          have HPL' : Hid (L.length ≤ 1000) := Lib.hid (by have := HPL.out; omega)
          obtain ⟨i0, hi0, hz0, hz1, hz2⟩ := info_parts Try.infoI64
          have s1 := fun W => slice_to (P := Try.prog) (t := 26) Try.underlying26 hi0 hz1 (some a1) m cI i (by omega) W
          have s2 := fun W => slice_from (P := Try.prog) (t := 26) Try.underlying26 hi0 hz1 (some a1) m cI (i + 1) (by omega) hcI W
          have s3 := fun W => slice_to (P := Try.prog) (t := 26) Try.underlying26 hi0 hz1 AW m cW i (by omega) W
          have s4 := fun W => slice_from (P := Try.prog) (t := 26) Try.underlying26 hi0 hz1 AW m cW (i + 1) (by omega) hcW W
          rw [show (((i + 1 : Nat)) : Int) = (i : Int) + 1 from by omega] at s2 s4
          have c2 := fun (W : World) (h : Reads W W.heap.size 1 (some a1) m (li.map iv)) => h.cut (k := i + 1) (cap := cI) (by omega) hcI
          have c4 := fun (W : World) (h : Reads W W.heap.size 1 AW m (lw.map iv)) => h.cut (k := i + 1) (cap := cW) (by omega) hcW
          simp only [Nat.mul_one] at s2 s4 c2 c4
          obtain ⟨A2, eA2⟩ : ∃ A2, (if cI = i + 1 then some a1 else Option.map (fun x => x.add (i + 1)) (some a1)) = A2 := ⟨_, rfl⟩
          obtain ⟨A4, eA4⟩ : ∃ A4, (if cW = i + 1 then AW else Option.map (fun x => x.add (i + 1)) AW) = A4 := ⟨_, rfl⟩
          rw [eA2] at c2
          rw [eA4] at c4
          simp only [eA2] at s2
          simp only [eA4] at s4
          have C2 := Lib.hid c2
          have C4 := Lib.hid c4
          have hI0 := Lib.hid hi0
          clear c2 c4 eA2 eA4 RQ RI RW hst hi0 hz0 hz1 hz2
          go_wp2_with (at_builtin
                       refine wpl_appO rfl _ _ rfl HS.out HPL'.out x.1 rfl rfl ?_
                       intro v6 w6 hst6)
          clear HS hc1
          have o1_take : ∀ u ∈ (li.map iv).take i, u.oneCell' = true := fun u hu => iv_one li u (List.mem_of_mem_take hu)
          have o1_drop : ∀ u ∈ (li.map iv).drop (i + 1), u.oneCell' = true := fun u hu => iv_one li u (List.mem_of_mem_drop hu)
          have o2_take : ∀ u ∈ (lw.map iv).take i, u.oneCell' = true := fun u hu => iv_one lw u (List.mem_of_mem_take hu)
          have o2_drop : ∀ u ∈ (lw.map iv).drop (i + 1), u.oneCell' = true := fun u hu => iv_one lw u (List.mem_of_mem_drop hu)
          have O1t := Lib.hid o1_take
          have O1d := Lib.hid o1_drop
          have O2t := Lib.hid o2_take
          have O2d := Lib.hid o2_drop
          clear o1_take o1_drop o2_take o2_drop
          have RI6 := Lib.hid (hst6.out.rI.reads HL1.out)
          have hwi : IntKind.i64.wrap ((i : Int) + 1) = (i : Int) + 1 := IntWalk.i64_in _ (by omega)
          go_region_held3 (fun w' => True) (first | exact True.intro | fail) (first
            | (refine step_append rfl (.tmp 87) (.tmp 91) _ rfl w6 w6.heap.size 3 _ 1 8 Try.underlying26 Try.infoI64 rfl (by decide) v8a (0 + i) ([] ++ (li.map iv).take i) (by simp [Act.eval]) (by exact hhv8a.out.1) w8a.heap.size A2 (m - (i + 1)) (cI - (i + 1)) ((li.map iv).drop (i + 1)) (by simp [Act.eval]) (by exact C2.out _ (RI6.out.later hhv8a.out.2.1)) O1d.out (by omega) (by decide) (by exact hhv8a.out.2.1) (by exact hhv8a.out.2.2) ?_
               intro v8 w8 hhv8)
            | (refine step_append rfl (.tmp 83) (.tmp 86) _ rfl w6 w6.heap.size 3 _ 1 8 Try.underlying26 Try.infoI64 rfl (by decide) (.slice (some ⟨w6.heap.size, 0, none⟩) 0 0) 0 [] (by simp [Act.eval]) (by exact (World.ownsRow_lit _ #[] 0 (Nat.le_refl _) (by unfold maxLen; omega) rfl).drew) (w6.heap.size + 1) (some a1) i cI ((li.map iv).take i) (by simp [Act.eval]) (by exact (((RI6.out.first (by omega)).alloc (Nat.le_refl _) _).more (by simp)).drew) O1t.out (by omega) (by decide) (by exact ((Below.refl _ _).alloc (Nat.le_refl _) _).drew) (by simp) ?_
               intro v8a w8a hhv8a))
          have hst8 : Hid (RSta w #[.int .u64 (e : Int), .slice A n cap] v8 (.slice AW m cW) v6 ((remL (cF g) ms (r + 1)).map (·.1)) lw (L ++ [x.1]) w8) :=
            Lib.hid (hst6.out.newI hhv8.out.2.1 (own_list hhv8.out.1 (by rw [ED.out, List.map_append, List.map_take, List.map_drop]; rfl)))
          have RW8 := Lib.hid (hst8.out.rW.reads HL2.out)
          clear hst6 hhv8 hhv8a RI6 s1 s2 O1t O1d C2
          go_wp2
          go_region_held3 (fun w' => True) (first | exact True.intro | fail) (first
            | (refine step_append rfl (.tmp 97) (.tmp 101) _ rfl w8 w8.heap.size 3 _ 1 8 Try.underlying26 Try.infoI64 rfl (by decide) v9a (0 + i) ([] ++ (lw.map iv).take i) (by simp [Act.eval]) (by exact hhv9a.out.1) w9a.heap.size A4 (m - (i + 1)) (cW - (i + 1)) ((lw.map iv).drop (i + 1)) (by simp [Act.eval]) (by exact C4.out _ (RW8.out.later hhv9a.out.2.1)) O2d.out (by omega) (by decide) (by exact hhv9a.out.2.1) (by exact hhv9a.out.2.2) ?_
               intro v9 w9 hhv9)
            | (refine step_append rfl (.tmp 93) (.tmp 96) _ rfl w8 w8.heap.size 3 _ 1 8 Try.underlying26 Try.infoI64 rfl (by decide) (.slice (some ⟨w8.heap.size, 0, none⟩) 0 0) 0 [] (by simp [Act.eval]) (by exact (World.ownsRow_lit _ #[] 0 (Nat.le_refl _) (by unfold maxLen; omega) rfl).drew) (w8.heap.size + 1) AW i cW ((lw.map iv).take i) (by simp [Act.eval]) (by exact (((RW8.out.first (by omega)).alloc (Nat.le_refl _) _).more (by simp)).drew) O2t.out (by omega) (by decide) (by exact ((Below.refl _ _).alloc (Nat.le_refl _) _).drew) (by simp) ?_
               intro v9a w9a hhv9a))
          have hst9 : Hid (RSta w #[.int .u64 (e : Int), .slice A n cap] v8 v9 v6 ((remL (cF g) ms (r + 1)).map (·.1)) ((remL (cF g) ms (r + 1)).map (·.2)) (picks (cF g) ms (r + 1)) w9) :=
            Lib.hid (by rw [ENh.out]; exact hst8.out.newW hhv9.out.2.1 (own_list hhv9.out.1 (by rw [EW.out, List.map_append, List.map_take, List.map_drop]; rfl)))
          clear hst8 hhv9 hhv9a RW8 s3 s4 O2t O2d C4 hwi
          go_wp2
          exact ⟨⟨r + 1, by omega, by go_num, hst9⟩, by simp [intOf]; omega⟩
        · obtain rfl : t = r := by omega
          go_wp2
          go_ret2
          exact ⟨_, rfl, hst.out.rO, hst.out.bel⟩
end
end Go.Proofs.Ytmdffmajnbokeaa
