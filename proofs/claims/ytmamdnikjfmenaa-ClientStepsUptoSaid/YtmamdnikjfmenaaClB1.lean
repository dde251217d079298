/-
  The reference's nodes and May: which callers may be.
-/
import Derived.Test.YtmamdnikjfmenaaClW3
namespace Go.Proofs.Ytmamdnikjfmenaa
open Go.RowKit
set_option linter.unusedVariables false
def RetNodes (xs : List Int) (n : Nat) (w : World) (e : Ending) (w' : World) : Prop := (∃ b : Bool, e = .returned (.bool b) ∧ (b = true → 0 < n ∧ NodesOk xs n) ∧ (b = false → ¬ (0 < n ∧ NodesOk xs n))) ∧ ∃ d, w' = w.drewN d
set_option maxRecDepth 100000 in
set_option maxHeartbeats 1000000 in
theorem rnodes_any (A : Option Addr) (n cap : Nat) (xs : List Int) (w : World) (hl : xs.length = n) (HR : Hid (Reads w w.heap.size 1 A n (xs.map iv))) (hm : n ≤ 9223372036854775807) :
    Calls Try.prog 41 #[.slice A n cap] w (RetNodes xs n w) := by
  have HL := Lib.hid hl
  clear hl
  go_enter Try.func41, Try.ntmps41
  go_wp2
  go_loopw [3, 4] (fun vi _ wr => ∃ i d : Nat, i ≤ n ∧ vi = .int .i64 i ∧ wr = w.drewN d ∧ Hid (NodesOk xs i)) (fun vi _ _ => n - (intOf vi).toNat)
  case atStart => exact ⟨0, 0, by omega, rfl, rfl, Lib.hid (fun i hi => by omega)⟩
  case round =>
    obtain ⟨i, d, hi, rfl, rfl, hz⟩ := hrel
    by_cases hlt : i < n
    · obtain ⟨ad, rfl, _, hc⟩ := HR.out.int_ hlt
      obtain ⟨x, hx⟩ : ∃ x, xs.getD i 0 = x := ⟨_, rfl⟩
      rw [hx] at hc
      have HX := Lib.hid hx
      clear hx
      have bad : Hid (¬ (1 ≤ x ∧ x ≤ 32 ∧ (xs.take i).contains x = false) → ¬ (0 < n ∧ NodesOk xs n)) := Lib.hid (fun hnb hm => hnb (by
        have := hm.2 i hlt
        rw [HX.out] at this
        exact this))
      by_cases c1 : x < 1
      · go_wp2
        go_ret
        exact ⟨⟨false, rfl, (fun h => by cases h), fun _ => bad.out (fun h => by omega)⟩, _, rfl⟩
      have n1 : 1 ≤ x := by omega
      by_cases c2 : 32 < x
      · go_wp2
        go_ret
        exact ⟨⟨false, rfl, (fun h => by cases h), fun _ => bad.out (fun h => by omega)⟩, _, rfl⟩
      have n2 : x ≤ 32 := by omega
      clear c1 c2
      go_wp2
      go_loopw [4] (fun vk wr => ∃ j e : Nat, j ≤ i ∧ vk = .int .i64 j ∧ wr = w.drewN e ∧ Hid ((xs.take j).contains x = false)) (fun vk _ => i - (intOf vk).toNat)
      case atStart => exact ⟨0, _, by omega, rfl, rfl, Lib.hid (by simp)⟩
      case round =>
        obtain ⟨j, e, hj, rfl, rfl, hz2⟩ := hrel
        by_cases hlt2 : j < i
        · obtain ⟨ad', had, _, hc2⟩ := HR.out.int_ (show j < n by omega)
          injection had with had
          subst had
          by_cases he : xs.getD j 0 = x
          · rw [he] at hc2
            have hin : Hid ((xs.take i).contains x = true) := Lib.hid (by
              rw [List.contains_iff_mem, ← he, List.getD_eq_getElem?_getD, List.getElem?_eq_getElem (show j < xs.length from by rw [HL.out]; omega)]
              exact List.mem_take_iff_getElem.2 ⟨j, by rw [HL.out]; omega, rfl⟩)
            clear he
            go_wp2
            go_quiet (fail)
            go_wp2
            go_ret
            exact ⟨⟨false, rfl, (fun h => by cases h), fun _ => bad.out (fun h => by have := h.2.2; rw [hin.out] at this; cases this)⟩, _, by first | rfl | exact World.drewN_drewN ..⟩
          · obtain ⟨y, hy⟩ : ∃ y, xs.getD j 0 = y := ⟨_, rfl⟩
            rw [hy] at hc2 he
            have e1 : (y == x) = false := beq_false_of_ne he
            have e2 : decide (y = x) = false := decide_eq_false he
            have H := Lib.hid (show (xs.take (j + 1)).contains x = false from by
              rw [List.take_succ_eq_append_getElem (by rw [HL.out]; omega)]
              have h0 := hz2.out
              have h1 : xs[j]'(by rw [HL.out]; omega) = y := by rw [← hy, List.getD_eq_getElem?_getD, List.getElem?_eq_getElem (by rw [HL.out]; omega)]; rfl
              simp only [List.contains_eq_mem, List.mem_append, List.mem_singleton, h1, decide_eq_false_iff_not, not_or] at h0 ⊢
              exact ⟨h0, Ne.symm he⟩)
            clear hy hz2
            go_wp2
            go_quiet (fail)
            go_wp2
            exact ⟨⟨j + 1, _, by omega, by go_num, by first | rfl | exact World.drewN_drewN .., H⟩, by simp [intOf]; omega⟩
        · obtain rfl : j = i := by omega
          have H2 := Lib.hid (show NodesOk xs (j + 1) from fun q hq => by
            by_cases e : q = j
            · subst e; rw [HX.out]; exact ⟨n1, n2, hz2.out⟩
            · exact hz.out q (by omega))
          clear hz hz2
          go_wp2
          exact ⟨⟨j + 1, _, by omega, by go_num, rfl, H2⟩, by simp [intOf]; omega⟩
    · obtain rfl : i = n := by omega
      by_cases h0 : 0 < i
      · go_wp2
        go_ret
        exact ⟨⟨true, rfl, (fun _ => ⟨h0, hz.out⟩), fun h => by cases h⟩, _, rfl⟩
      · obtain rfl : i = 0 := by omega
        go_wp2
        go_ret
        exact ⟨⟨false, rfl, (fun h => by cases h), fun _ h => absurd h.1 (by omega)⟩, _, rfl⟩
set_option maxRecDepth 100000 in
set_option maxHeartbeats 40000000 in
theorem rmay_any {c : Cal} {N D : Option Addr} {n m nc dc : Nat} {w : World} (h : Hid (CalIn w c n N nc m D dc)) :
    Calls Try.prog 32 #[.agg (c.cs n N nc m D dc)] w (MayRet c w) := by
  have hn1 := h.out.n1
  have hn2 := h.out.n2
  unfold maxLen at hn2
  have HN := Lib.hid h.out.nl
  have hbel := (Below.refl w.heap.size w).alloc (Nat.le_refl _) (.cells #[.int .u64 c.client, .slice N n nc, .int .i64 c.at_, .int .i64 c.turn, .int .u64 c.seq, .bool c.opn, .int .i64 c.kind, .string c.key, .slice D m dc, .int .i64 c.waited, .int .i64 c.retry, .int .i64 c.limit] 40)
  have HNR1 := Lib.hid (h.out.nr.later hbel)
  have BB := Lib.hid hbel
  clear hbel
  unfold Cal.cs
  by_cases a0 : c.client < 1
  · go_enter Try.func32, Try.ntmps32
    go_wp2
    go_ret
    exact ⟨⟨false, rfl, (fun h => by cases h), fun _ h => by have := h.c1; omega⟩, BB.out⟩
  have na0 : 1 ≤ c.client := by omega
  by_cases a1 : 64 < c.client
  · go_enter Try.func32, Try.ntmps32
    go_wp2
    go_ret
    exact ⟨⟨false, rfl, (fun h => by cases h), fun _ h => by have := h.c2; omega⟩, BB.out⟩
  have na1 : c.client ≤ 64 := by omega
  by_cases hk : 0 < n ∧ NodesOk c.nodes n
  rotate_left
  · have HK := Lib.hid hk
    clear hk
    go_enter Try.func32, Try.ntmps32
    go_wp2_with (go_at_call 41; refine (rnodes_any N n nc c.nodes _ HN.out HNR1 (by omega)).mono ?_; rintro e w1 ⟨⟨b, rfl, hb1, hb0⟩, d, rfl⟩; have HB1 := Lib.hid hb1; have HB0 := Lib.hid hb0; clear hb1 hb0; obtain rfl : b = false := (by cases b with | false => rfl | true => exact absurd (HB1.out rfl) HK.out))
    go_ret
    exact ⟨⟨false, rfl, (fun h => by cases h), fun _ h => by have h1 := h.n0; have h2 := h.nodes; rw [HN.out] at h1 h2; exact HK.out ⟨h1, h2⟩⟩, bel_drewN BB.out _⟩
  have HK := Lib.hid hk
  clear hk
  by_cases a2 : c.retry < 1
  · go_enter Try.func32, Try.ntmps32
    go_wp2_with (go_at_call 41; refine (rnodes_any N n nc c.nodes _ HN.out HNR1 (by omega)).mono ?_; rintro e w1 ⟨⟨b, rfl, hb1, hb0⟩, d, rfl⟩; have HB1 := Lib.hid hb1; have HB0 := Lib.hid hb0; clear hb1 hb0; obtain rfl : b = true := (by cases b with | true => rfl | false => exact absurd HK.out (HB0.out rfl)))
    go_ret
    exact ⟨⟨false, rfl, (fun h => by cases h), fun _ h => by have := h.r1; omega⟩, bel_drewN BB.out _⟩
  have na2 : 1 ≤ c.retry := by omega
  by_cases a3 : c.limit < c.retry
  · go_enter Try.func32, Try.ntmps32
    go_wp2_with (go_at_call 41; refine (rnodes_any N n nc c.nodes _ HN.out HNR1 (by omega)).mono ?_; rintro e w1 ⟨⟨b, rfl, hb1, hb0⟩, d, rfl⟩; have HB1 := Lib.hid hb1; have HB0 := Lib.hid hb0; clear hb1 hb0; obtain rfl : b = true := (by cases b with | true => rfl | false => exact absurd HK.out (HB0.out rfl)))
    go_ret
    exact ⟨⟨false, rfl, (fun h => by cases h), fun _ h => by have := h.r2; omega⟩, bel_drewN BB.out _⟩
  have na3 : c.retry ≤ c.limit := by omega
  by_cases a4 : 100000 < c.limit
  · go_enter Try.func32, Try.ntmps32
    go_wp2_with (go_at_call 41; refine (rnodes_any N n nc c.nodes _ HN.out HNR1 (by omega)).mono ?_; rintro e w1 ⟨⟨b, rfl, hb1, hb0⟩, d, rfl⟩; have HB1 := Lib.hid hb1; have HB0 := Lib.hid hb0; clear hb1 hb0; obtain rfl : b = true := (by cases b with | true => rfl | false => exact absurd HK.out (HB0.out rfl)))
    go_ret
    exact ⟨⟨false, rfl, (fun h => by cases h), fun _ h => by have := h.l1; omega⟩, bel_drewN BB.out _⟩
  have na4 : c.limit ≤ 100000 := by omega
  by_cases a5 : c.at_ < 0
  · go_enter Try.func32, Try.ntmps32
    go_wp2_with (go_at_call 41; refine (rnodes_any N n nc c.nodes _ HN.out HNR1 (by omega)).mono ?_; rintro e w1 ⟨⟨b, rfl, hb1, hb0⟩, d, rfl⟩; have HB1 := Lib.hid hb1; have HB0 := Lib.hid hb0; clear hb1 hb0; obtain rfl : b = true := (by cases b with | true => rfl | false => exact absurd HK.out (HB0.out rfl)))
    go_ret
    exact ⟨⟨false, rfl, (fun h => by cases h), fun _ h => by have := h.a0; omega⟩, bel_drewN BB.out _⟩
  have na5 : 0 ≤ c.at_ := by omega
  by_cases a6 : (n : Int) ≤ c.at_
  · have e7 : decide (c.at_ < (n : Int)) = false := decide_eq_false (by omega)
    go_enter Try.func32, Try.ntmps32
    go_wp2_with (go_at_call 41; refine (rnodes_any N n nc c.nodes _ HN.out HNR1 (by omega)).mono ?_; rintro e w1 ⟨⟨b, rfl, hb1, hb0⟩, d, rfl⟩; have HB1 := Lib.hid hb1; have HB0 := Lib.hid hb0; clear hb1 hb0; obtain rfl : b = true := (by cases b with | true => rfl | false => exact absurd HK.out (HB0.out rfl)))
    go_ret
    exact ⟨⟨false, rfl, (fun h => by cases h), fun _ h => by have := h.a1; rw [HN.out] at this; omega⟩, bel_drewN BB.out _⟩
  have na6 : c.at_ < n := by omega
  by_cases a7 : c.turn < 0
  · go_enter Try.func32, Try.ntmps32
    go_wp2_with (go_at_call 41; refine (rnodes_any N n nc c.nodes _ HN.out HNR1 (by omega)).mono ?_; rintro e w1 ⟨⟨b, rfl, hb1, hb0⟩, d, rfl⟩; have HB1 := Lib.hid hb1; have HB0 := Lib.hid hb0; clear hb1 hb0; obtain rfl : b = true := (by cases b with | true => rfl | false => exact absurd HK.out (HB0.out rfl)))
    go_ret
    exact ⟨⟨false, rfl, (fun h => by cases h), fun _ h => by have := h.t0; omega⟩, bel_drewN BB.out _⟩
  have na7 : 0 ≤ c.turn := by omega
  by_cases a8 : (n : Int) ≤ c.turn
  · have e7 : decide (c.turn < (n : Int)) = false := decide_eq_false (by omega)
    go_enter Try.func32, Try.ntmps32
    go_wp2_with (go_at_call 41; refine (rnodes_any N n nc c.nodes _ HN.out HNR1 (by omega)).mono ?_; rintro e w1 ⟨⟨b, rfl, hb1, hb0⟩, d, rfl⟩; have HB1 := Lib.hid hb1; have HB0 := Lib.hid hb0; clear hb1 hb0; obtain rfl : b = true := (by cases b with | true => rfl | false => exact absurd HK.out (HB0.out rfl)))
    go_ret
    exact ⟨⟨false, rfl, (fun h => by cases h), fun _ h => by have := h.t1; rw [HN.out] at this; omega⟩, bel_drewN BB.out _⟩
  have na8 : c.turn < n := by omega
  by_cases a9 : c.waited < 0
  · go_enter Try.func32, Try.ntmps32
    go_wp2_with (go_at_call 41; refine (rnodes_any N n nc c.nodes _ HN.out HNR1 (by omega)).mono ?_; rintro e w1 ⟨⟨b, rfl, hb1, hb0⟩, d, rfl⟩; have HB1 := Lib.hid hb1; have HB0 := Lib.hid hb0; clear hb1 hb0; obtain rfl : b = true := (by cases b with | true => rfl | false => exact absurd HK.out (HB0.out rfl)))
    go_ret
    exact ⟨⟨false, rfl, (fun h => by cases h), fun _ h => by have := h.w0; omega⟩, bel_drewN BB.out _⟩
  have na9 : 0 ≤ c.waited := by omega
  by_cases a10 : c.limit < c.waited
  · go_enter Try.func32, Try.ntmps32
    go_wp2_with (go_at_call 41; refine (rnodes_any N n nc c.nodes _ HN.out HNR1 (by omega)).mono ?_; rintro e w1 ⟨⟨b, rfl, hb1, hb0⟩, d, rfl⟩; have HB1 := Lib.hid hb1; have HB0 := Lib.hid hb0; clear hb1 hb0; obtain rfl : b = true := (by cases b with | true => rfl | false => exact absurd HK.out (HB0.out rfl)))
    go_ret
    exact ⟨⟨false, rfl, (fun h => by cases h), fun _ h => by have := h.w1; omega⟩, bel_drewN BB.out _⟩
  have na10 : c.waited ≤ c.limit := by omega
  clear a0 a1 a2 a3 a4 a5 a6 a7 a8 a9 a10
  go_enter Try.func32, Try.ntmps32
  go_wp2_with (go_at_call 41; refine (rnodes_any N n nc c.nodes _ HN.out HNR1 (by omega)).mono ?_; rintro e w1 ⟨⟨b, rfl, hb1, hb0⟩, d, rfl⟩; have HB1 := Lib.hid hb1; have HB0 := Lib.hid hb0; clear hb1 hb0; obtain rfl : b = true := (by cases b with | true => rfl | false => exact absurd HK.out (HB0.out rfl)))
  have hln := HN.out
  obtain ⟨sb, hsb⟩ : ∃ sb, decide ((c.seq : Int) < 4611686018427387904) = sb := ⟨_, rfl⟩
  rw [hsb]
  go_ret
  exact ⟨⟨sb, rfl, (fun h => ⟨na0, na1, by rw [hln]; exact HK.out.1, na2, na3, na4, by rw [hln]; exact HK.out.2, na5, by rw [hln]; exact na6, na7, by rw [hln]; exact na8, na9, na10, by rw [h] at hsb; have := of_decide_eq_true hsb; omega⟩), fun h hm => by rw [h] at hsb; have := of_decide_eq_false hsb; have := hm.s1; omega⟩, bel_drewN BB.out _⟩
theorem rmay_yes {c : Cal} {N D : Option Addr} {n m nc dc : Nat} {w : World} (h : Hid (CalIn w c n N nc m D dc)) (hm : May c) :
    Calls Try.prog 32 #[.agg (c.cs n N nc m D dc)] w fun e w' => e = .returned (.bool true) ∧ Below w.heap.size w w' :=
  (rmay_any h).mono fun e w' ⟨⟨b, he, h1, h2⟩, hb⟩ => ⟨by cases b with | true => exact he | false => exact absurd hm (h2 rfl), hb⟩
theorem rmay_no {c : Cal} {N D : Option Addr} {n m nc dc : Nat} {w : World} (h : Hid (CalIn w c n N nc m D dc)) (hm : ¬ May c) :
    Calls Try.prog 32 #[.agg (c.cs n N nc m D dc)] w fun e w' => e = .returned (.bool false) ∧ Below w.heap.size w w' :=
  (rmay_any h).mono fun e w' ⟨⟨b, he, h1, h2⟩, hb⟩ => ⟨by cases b with | false => exact he | true => exact absurd (h1 rfl) hm, hb⟩
end Go.Proofs.Ytmamdnikjfmenaa
