/-
  The walk of Nodes where there are enough members.
-/
import Derived.Test.YtmdffmajnbokeaaPlW6
namespace Go.Proofs.Ytmdffmajnbokeaa
open Go.RowKit StrMath PlMath
set_option linter.unusedVariables false
def accTo (c : Nat → Mem → Int) (r : Nat) (l : List Int) (ms : List Mem) (j : Nat) : Int × Int := ((ms.take j).filter fun x => !l.contains x.1).foldl (stp c r) (0, 0)
theorem accTo_skip (c : Nat → Mem → Int) (r : Nat) (l : List Int) (ms : List Mem) (j : Nat) (hj : j < ms.length) (h : l.contains (ms.getD j (0, 0)).1 = true) : accTo c r l ms (j + 1) = accTo c r l ms j := by
  unfold accTo
  rw [List.getD_eq_getElem?_getD, List.getElem?_eq_getElem hj] at h
  rw [List.take_succ_eq_append_getElem hj, List.filter_append, List.filter_cons_of_neg (by simpa using h)]
  simp
theorem accTo_take (c : Nat → Mem → Int) (r : Nat) (l : List Int) (ms : List Mem) (j : Nat) (hj : j < ms.length) (h : l.contains (ms.getD j (0, 0)).1 = false) : accTo c r l ms (j + 1) = stp c r (accTo c r l ms j) (ms.getD j (0, 0)) := by
  unfold accTo
  rw [List.getD_eq_getElem?_getD, List.getElem?_eq_getElem hj] at h ⊢
  rw [List.take_succ_eq_append_getElem hj, List.filter_append, List.filter_cons_of_pos (by simpa using h), List.foldl_append]
  rfl
theorem accTo_all (c : Nat → Mem → Int) (r : Nat) (ms : List Mem) : accTo c r (picks c ms r) ms ms.length = bst c r (remL c ms r) := by
  unfold accTo remL bst
  rw [List.take_of_length_le (Nat.le_refl _)]
theorem sel_rng (c : Nat → Mem → Int) (r : Nat) {l : List Mem} (h : Up l) : 0 ≤ sel c r l ∧ sel c r l ≤ 32 := by
  unfold sel
  rcases bst_spec (c := c) r h with ⟨_, e⟩ | ⟨x, hx, e⟩
  · rw [e]; decide
  · rw [e]
    have := h.2 x hx.1
    exact ⟨by simp only; omega, by simp only; omega⟩
theorem leftF_next (ms : List Mem) (n : Nat) (l : List Int) (s j : Int) : (if j = s then none else leftF ms n l j) = leftF ms n (l ++ [s]) j := by
  unfold leftF
  by_cases h : j = s
  · subst h; simp
  · by_cases h2 : j ∈ l <;> simp [h, h2]
section
variable (e : Nat) (A : Option Addr) (n cap : Nat) (ms : List Mem) (g t : Nat) (w : World)
set_option maxRecDepth 100000 in
set_option maxHeartbeats 4000000 in
theorem nodes_ok (hr : Hid (Reads w w.heap.size 2 A n (mcells ms))) (h64 : M64 ms) (hc : n ≤ cap) (hm : cap ≤ maxLen) (hk : chk ms = true) (h1 : g < 64) (h2 : 1 ≤ t) (h3 : t ≤ 255) (hf : t ≤ wts ms) :
    Calls Try.prog 9 #[mapV e A n cap, .int .i64 g, .int .i64 t] w (RetI (picks (cF g) ms t, 0) w) := by
  have H := Lib.hid (fun W h => check_any e A n cap ms W h h64 hc hm)
  have HW := Lib.hid (fun W h => weights_any e A n cap ms W h hc hm)
  have E0 : Hid (errM (chk ms) = 0) := Lib.hid (by rw [hk]; rfl)
  obtain ⟨hU, hn32⟩ := chk_up hk
  have hl : ms.length = n := by have := hr.out.1; rw [mcells_len] at this; omega
  have hwl := wts_le ms
  rw [hl] at hn32 hwl
  have hmk := @run_makeMap Try.prog
  have d1 : decide ((g : Int) < 0) = false := decide_eq_false (by omega)
  have d2 : decide (64 ≤ (g : Int)) = false := decide_eq_false (by omega)
  have d3 : decide ((t : Int) < 1) = false := decide_eq_false (by omega)
  have d4 : decide (255 < (t : Int)) = false := decide_eq_false (by omega)
  have d2' : decide (64 ≤ g) = false := decide_eq_false (by omega)
  have d3' : decide (t < 1) = false := decide_eq_false (by omega)
  have d4' : decide (255 < t) = false := decide_eq_false (by omega)
  have HL := Lib.hid hl
  have HU := Lib.hid hU
  clear hk hl hU h64
  generalize wts ms = c at *
  have d5 : decide (c < t) = false := decide_eq_false (by omega)
  have ht32 : t ≤ 32 := by omega
  unfold maxLen at hm
  unfold mapV at HW H ⊢
  go_enter Try.func9, Try.ntmps9
  go_wp2_with fail
  refine (H.out _ ((hr.out.alloc (Nat.le_refl _) _).more (by simp))).mono ?_
  rintro e' w2 ⟨rfl, hb⟩
  have hb2 : Below w.heap.size w w2 := ((Below.refl _ _).alloc (Nat.le_refl _) _).trans (hb.mono (by simp))
  have hx := box_after hb
  have hx0 := hx.cell 0
  have hx1 := hx.cell 1
  have HX := Lib.hid hx
  have hs2 := hb.size
  rw [E0.out]
  clear hb hx
  go_wp2_with fail
  refine (HW.out _ ((hr.out.below hb2).more hb2.size)).mono ?_
  rintro e' w3 ⟨rfl, hb3⟩
  have hs3 := hb3.size
  simp at hs2
  have HX3 : Hid (Blk w3 w.heap.size 25 #[.int .u64 (e : Int), .slice A n cap]) := Lib.hid (HX.out.below hb3 (by omega))
  have hb4 : Below w.heap.size w w3 := hb2.trans (hb3.mono hb2.size)
  clear hx0 hx1 HX
  have hx1 := HX3.out.cell 1
  have hs4 : w.heap.size < w3.heap.size := by omega
  have HB4 := Lib.hid hb4
  clear hb3 hb2 hb4 H HW d1 d2 d3 d4 d2' d3' d4'
  have hst0 : Hid (Sta w w.heap.size w3.heap.size 0 #[.int .u64 (e : Int), .slice A n cap] (fillF ms 0) (.slice none 0 0) [] (w3.alloc (.map #[] 0))) :=
    Lib.hid ⟨HB4.out.alloc HB4.out.size _, ⟨.map [], World.ownsMap_made _ _ _ _, MapIs.empty⟩, ⟨rfl, .inl ⟨rfl, rfl⟩⟩, HX3.out.alloc _, Nat.le_refl _, HB4.out.size, by omega⟩
  go_wp2
  obtain ⟨b, eb⟩ : ∃ b, w3.heap.size = b := ⟨_, rfl⟩
  rw [eb] at hst0 ⊢
  revert hst0
  generalize w3.alloc (Obj.map #[] 0) = w4
  intro hst0
  clear eb hx1 hs4 HB4 HX3 hs3 hs2 hmk d5
  go_loopw [10, 48] (fun _ vi wr => ∃ k : Nat, k ≤ n ∧ vi = .int .i64 k ∧ Hid (Sta w w.heap.size b k #[.int .u64 (e : Int), .slice A n cap] (fillF ms k) (.slice none 0 0) [] wr)) (fun _ vi _ => n - (intOf vi).toNat)
  case atStart => exact ⟨0, by omega, rfl, hst0⟩
  case round =>
    obtain ⟨k, hk, rfl, hst⟩ := hrel
    by_cases hlt : k < n
    · obtain ⟨ad, rfl, hbl, hc1, hc2⟩ := (hr.out.below hst.out.bel).mem hlt
      have hxr := HU.out.2 (ms.getD k (0, 0)) (by rw [List.getD_eq_getElem?_getD, List.getElem?_eq_getElem (by have := HL.out; omega)]; exact List.getElem_mem _)
      have hfe : Hid (∀ j, (if j = (ms.getD k (0, 0)).1 then some (ms.getD k (0, 0)).2 else fillF ms k j) = fillF ms (k + 1) j) := Lib.hid (fun j => rfl)
      obtain ⟨x, ex⟩ : ∃ x, ms.getD k (0, 0) = x := ⟨_, rfl⟩
      rw [ex] at hc1 hc2 hxr hfe
      obtain ⟨id, wt⟩ := x
      simp only at hc1 hc2 hxr hfe
      clear ex
      have HS := Lib.hid (hst.out.alloc (.cells #[.int .i64 id, .int .i64 wt] 41))
      clear hst
      go_wp2_with (at_mapUpdate
                   refine wpl_put rfl _ _ _ rfl HS.out (by omega) id wt rfl rfl rfl (wf32 (by omega) (by omega)) (wf32 (by omega) (by omega)) ?_
                   intro w5 hst5)
      exact ⟨⟨k + 1, by omega, by go_num, Lib.hid (hst5.out.congr hfe.out)⟩, by simp [intOf]; omega⟩
    · obtain rfl : n = k := by omega
      clear hst0
      have hst1 : Hid (Sta w w.heap.size b n #[.int .u64 (e : Int), .slice A n cap] (leftF ms n (picks (cF g) ms 0)) (.slice none 0 0) (picks (cF g) ms 0) wr) :=
        Lib.hid (hst.out.congr (fun j => by unfold leftF picks; simp))
      clear hst
      go_wp2
      obtain ⟨wf, ewf⟩ : ∃ wf, wf = wr := ⟨_, rfl⟩
      rw [← ewf] at hst1 ⊢
      clear ewf
      go_loopw [11, 12, 13, 14, 16, 17, 18, 19, 59] (fun vo _ _ _ _ _ _ _ vi wr => ∃ r : Nat, r ≤ t ∧ vi = .int .i64 r ∧ Hid (Sta w w.heap.size b n #[.int .u64 (e : Int), .slice A n cap] (leftF ms n (picks (cF g) ms r)) vo (picks (cF g) ms r) wr)) (fun _ _ _ _ _ _ _ _ vi _ => t - (intOf vi).toNat)
      case atStart => exact ⟨0, by omega, rfl, hst1⟩
      case round =>
        obtain ⟨r, hr', rfl, hst⟩ := hrel
        clear hst1
        by_cases hrt : r < t
        · have EN := Lib.hid (picks_succ (c := cF g) ms r)
          have EA : Hid (accTo (cF g) r (picks (cF g) ms r) ms n = bst (cF g) r (remL (cF g) ms r)) := Lib.hid (by have := accTo_all (cF g) r ms; rw [HL.out] at this; exact this)
          have hsr := sel_rng (cF g) r (remL_up (c := cF g) HU.out r)
          have hpl := picks_length (c := cF g) ms r
          unfold sel at EN hsr
          generalize bst (cF g) r (remL (cF g) ms r) = bs at *
          obtain ⟨L, eL⟩ : ∃ L, picks (cF g) ms r = L := ⟨_, rfl⟩
          rw [eL] at EN EA hpl hst
          have HPL := Lib.hid hpl
          clear eL hpl
          have hx1 := hst.out.box.cell 1
          have HS0 := hst
          clear hst
          go_wp2
          clear hx1
          obtain ⟨wo, ewo⟩ : ∃ wo, wo = wr := ⟨_, rfl⟩
          rw [← ewo] at HS0 ⊢
          clear ewo
          go_loopw [13, 14, 16, 17, 18, 19, 65] (fun vb vl _ _ _ _ vi wr => ∃ j : Nat, j ≤ n ∧ vi = .int .i64 j ∧ vb = .int .i64 (accTo (cF g) r L ms j).1 ∧ vl = .int .i64 (accTo (cF g) r L ms j).2 ∧ Hid (Sta w w.heap.size b n #[.int .u64 (e : Int), .slice A n cap] (leftF ms n L) u11 L wr)) (fun _ _ _ _ _ _ vi _ => n - (intOf vi).toNat)
          case atStart => exact ⟨0, by omega, rfl, rfl, rfl, HS0⟩
          case round =>
            obtain ⟨j, hj, rfl, rfl, rfl, hst⟩ := hrel
            by_cases hjn : j < n
            · obtain ⟨ad, rfl, hbl, hc1, hc2⟩ := (hr.out.below hst.out.bel).mem hjn
              have hjl : j < ms.length := by have := HL.out; omega
              have hxr := HU.out.2 (ms.getD j (0, 0)) (by rw [List.getD_eq_getElem?_getD, List.getElem?_eq_getElem hjl]; exact List.getElem_mem _)
              have hfg := fillF_get HU.out n (by have := HL.out; omega) j hjn
              have q1 := accTo_skip (cF g) r L ms j hjl
              have q2 := accTo_take (cF g) r L ms j hjl
              obtain ⟨x, ex⟩ : ∃ x, ms.getD j (0, 0) = x := ⟨_, rfl⟩
              rw [ex] at hc1 hc2 hxr hfg q1 q2
              obtain ⟨id, wt⟩ := x
              simp only at hc1 hc2 hxr hfg q1 q2
              clear ex hjl
              obtain ⟨i, rfl⟩ : ∃ i : Nat, id = i := ⟨id.toNat, by omega⟩
              have HS := Lib.hid (hst.out.alloc (.cells #[.int .i64 (i : Int), .int .i64 wt] 41))
              clear hst
              obtain ⟨D, hown, hD⟩ := HS.out.mp
              have HO := Lib.hid hown
              have HD := Lib.hid hD
              clear hown hD
              generalize accTo (cF g) r L ms j = ac at *
              obtain ⟨ab, al⟩ := ac
              by_cases hcn : L.contains (i : Int) = true
              · have z1 : Hid ((leftF ms n L (i : Int)).getD 0 = 0) := Lib.hid (by unfold leftF; rw [if_pos hcn]; rfl)
                have z2 : Hid ((leftF ms n L (i : Int)).isSome = false) := Lib.hid (by unfold leftF; rw [if_pos hcn]; rfl)
                have Q := Lib.hid (q1 hcn)
                clear q1 q2 hfg hcn
                go_wp2_with (at_lookup
                             refine wpl_look rfl _ _ rfl b n D _ HO.out HD.out (i : Int) rfl rfl (wf32 (by omega) (by omega)) 0 false z1.out z2.out ?_)
                exact ⟨⟨j + 1, by omega, by go_num, by rw [Q.out], by rw [Q.out], HS⟩, by simp [intOf]; omega⟩
              · have z1 : Hid ((leftF ms n L (i : Int)).getD 0 = wt) := Lib.hid (by unfold leftF; rw [if_neg hcn, hfg]; rfl)
                have z2 : Hid ((leftF ms n L (i : Int)).isSome = true) := Lib.hid (by unfold leftF; rw [if_neg hcn, hfg]; rfl)
                have q3 := q2 (by simpa using hcn)
                clear q1 q2 hfg hcn
                by_cases hw0 : wt = 0
                · subst hw0
                  have Q : Hid (accTo (cF g) r L ms (j + 1) = (ab, al)) := Lib.hid q3
                  clear q3
                  go_wp2_with (at_lookup
                               refine wpl_look rfl _ _ rfl b n D _ HO.out HD.out (i : Int) rfl rfl (wf32 (by omega) (by omega)) 0 true z1.out z2.out ?_)
                  exact ⟨⟨j + 1, by omega, by go_num, by rw [Q.out], by rw [Q.out], HS⟩, by simp [intOf]; omega⟩
                · have f1 : (wt == 0) = false := by simpa using hw0
                  unfold stp at q3
                  rw [if_neg hw0, show cF g r ((i : Int), wt) = cost (hashN g r i) wt from rfl] at q3
                  have hH := hashN_lt g r i
                  have HA := Lib.hid (fun W => hash_any g r i W (by omega) (by omega))
                  generalize hashN g r i = hh at *
                  have HC := Lib.hid (fun W => cost_any hh wt W hH (wf32 (by omega) (by omega)))
                  have hcr := cost_rng hh wt
                  generalize cost hh wt = cc at *
                  have HW0 := Lib.hid hw0
                  clear hw0
                  have aux : ((ab == 0) = true ∧ Hid (accTo (cF g) r L ms (j + 1) = ((i : Int), cc))) ∨ ((ab == 0) = false ∧ decide (cc < al) = true ∧ Hid (accTo (cF g) r L ms (j + 1) = ((i : Int), cc))) ∨
                      ((ab == 0) = false ∧ decide (cc < al) = false ∧ Hid (accTo (cF g) r L ms (j + 1) = (ab, al))) := by
                    simp only at q3
                    by_cases k1 : ab = 0
                    · left; rw [if_pos (.inl k1)] at q3; exact ⟨by simpa using k1, Lib.hid q3⟩
                    · by_cases k2 : cc < al
                      · right; left; rw [if_pos (.inr k2)] at q3; exact ⟨by simpa using k1, decide_eq_true k2, Lib.hid q3⟩
                      · right; right; rw [if_neg (by omega)] at q3; exact ⟨by simpa using k1, decide_eq_false k2, Lib.hid q3⟩
                  clear q3
                  rcases aux with ⟨k1, Q⟩ | ⟨k1, k2, Q⟩ | ⟨k1, k2, Q⟩
                  all_goals
                    go_wp2_with (at_lookup
                                 refine wpl_look rfl _ _ rfl b n D _ HO.out HD.out (i : Int) rfl rfl (wf32 (by omega) (by omega)) wt true z1.out z2.out ?_)
                    refine (HA.out _).mono ?_
                    rintro e' w' ⟨rfl, rfl⟩
                    go_wp2_with fail
                    refine (HC.out _).mono ?_
                    rintro e' w' ⟨rfl, rfl⟩
                    go_wp2
                    exact ⟨⟨j + 1, by omega, by go_num, by rw [Q.out], by rw [Q.out], HS⟩, by simp [intOf]; omega⟩
            · obtain rfl : n = j := by omega
              have HN := Lib.hid (leftF_next ms n L bs.1)
              rw [EA.out]
              have hll : L.length ≤ 1000 := by have := HPL.out; omega
              clear HS0
              go_wp2_with (first
                | (at_builtin
                   refine wpl_app rfl _ _ rfl hst.out hll bs.1 rfl rfl ?_
                   intro v5 w5 hst5)
                | (refine wpl_del rfl _ _ rfl hst5.out bs.1 rfl rfl (wf32 (by omega) (by omega)) ?_
                   intro w6 hst6))
              exact ⟨⟨r + 1, by omega, by go_num, Lib.hid (by rw [EN.out]; exact hst6.out.congr HN.out)⟩, by simp [intOf]; omega⟩
        · obtain rfl : t = r := by omega
          go_wp2
          go_ret2
          exact ⟨_, rfl, hst.out.row, hst.out.bel⟩
end
end Go.Proofs.Ytmdffmajnbokeaa
