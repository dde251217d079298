/-
  may: which callers may be.
-/
import Derived.Test.YtmamdnikjfmenaaClW1
namespace Go.Proofs.Ytmamdnikjfmenaa
open Go.RowKit
set_option linter.unusedVariables false
section
variable {c : Cal} {N D : Option Addr} {n m nc dc : Nat} {w : World}
set_option maxRecDepth 100000 in
set_option maxHeartbeats 400000 in
theorem place_yes (i : Int) (hn : n ≤ 9223372036854775807) (h0 : 0 ≤ i) (h1 : i < n) :
    Calls Try.prog 39 #[.agg (c.cs n N nc m D dc), .int .i64 i] w fun e w' => e = .returned (.bool true) ∧ Below w.heap.size w w' := by
  unfold Cal.cs
  go_enter Try.func39, Try.ntmps39
  go_wp2
  go_ret
  exact ⟨rfl, (Below.refl _ _).alloc (Nat.le_refl _) _⟩
set_option maxRecDepth 100000 in
set_option maxHeartbeats 400000 in
theorem place_no (i : Int) (hn : n ≤ 9223372036854775807) (h : i < 0 ∨ (n : Int) ≤ i) :
    Calls Try.prog 39 #[.agg (c.cs n N nc m D dc), .int .i64 i] w fun e w' => e = .returned (.bool false) ∧ Below w.heap.size w w' := by
  unfold Cal.cs
  rcases h with h | h
  · go_enter Try.func39, Try.ntmps39
    go_wp2
    go_ret
    exact ⟨rfl, (Below.refl _ _).alloc (Nat.le_refl _) _⟩
  · have h0 : 0 ≤ i := by omega
    have e1 : decide (i < (n : Int)) = false := decide_eq_false (by omega)
    go_enter Try.func39, Try.ntmps39
    go_wp2
    go_ret
    exact ⟨rfl, (Below.refl _ _).alloc (Nat.le_refl _) _⟩
def MayRet (c : Cal) (w : World) (e : Ending) (w' : World) : Prop := (∃ b : Bool, e = .returned (.bool b) ∧ (b = true → May c) ∧ (b = false → ¬ May c)) ∧ Below w.heap.size w w'
theorem Reads.first' {w : World} {B n : Nat} {A : Option Addr} {xs : List Value} (h : Reads w B 1 A n xs) {k : Nat} (hk : k ≤ n) : Reads w B 1 A k (xs.take k) := by
  have hl : xs.length = n := by simpa using h.1
  refine ⟨by rw [List.length_take]; omega, fun h0 => ?_⟩
  obtain ⟨ad, rfl, hb, hc⟩ := h.2 (by omega)
  refine ⟨ad, rfl, hb, fun j u hu => hc j u ?_⟩
  rcases Nat.lt_or_ge j k with hj | hj
  · rw [List.getElem?_take_of_lt hj] at hu; exact hu
  · rw [List.getElem?_eq_none (by rw [List.length_take]; omega)] at hu; cases hu
theorem list_nil_of {α : Type} {l : List α} (h : l.length = 0) : l = [] := List.eq_nil_of_length_eq_zero h
set_option maxRecDepth 100000 in
set_option maxHeartbeats 2000000 in
theorem may_any (h : Hid (CalIn w c n N nc m D dc)) :
    Calls Try.prog 22 #[.agg (c.cs n N nc m D dc)] w (MayRet c w) := by
  obtain ⟨i0, hi0, hz0, hz1, hz2⟩ := info_parts Try.infoI
  have hn1 := h.out.n1
  have hn2 := h.out.n2
  unfold maxLen at hn2
  have HNR := Lib.hid h.out.nr
  unfold Cal.cs
  have HN := Lib.hid h.out.nl
  by_cases a1 : c.client < 1
  · go_enter Try.func22, Try.ntmps22
    go_wp2
    go_ret
    exact ⟨⟨false, rfl, (fun h => by cases h), fun _ h => by have := h.c1; omega⟩, (Below.refl _ _).alloc (Nat.le_refl _) _⟩
  have na1 : 1 ≤ c.client := by omega
  by_cases a2 : 64 < c.client
  · go_enter Try.func22, Try.ntmps22
    go_wp2
    go_ret
    exact ⟨⟨false, rfl, (fun h => by cases h), fun _ h => by have := h.c2; omega⟩, (Below.refl _ _).alloc (Nat.le_refl _) _⟩
  have na2 : c.client ≤ 64 := by omega
  by_cases a3 : n = 0
  · subst a3
    go_enter Try.func22, Try.ntmps22
    go_wp2
    go_ret
    exact ⟨⟨false, rfl, (fun h => by cases h), fun _ h => by have := h.n0; rw [HN.out] at this; omega⟩, (Below.refl _ _).alloc (Nat.le_refl _) _⟩
  have na3 : 0 < n := by omega
  have e3 : ((n : Int) == 0) = false := by simp; omega
  by_cases a4 : c.retry < 1
  · go_enter Try.func22, Try.ntmps22
    go_wp2
    go_ret
    exact ⟨⟨false, rfl, (fun h => by cases h), fun _ h => by have := h.r1; omega⟩, (Below.refl _ _).alloc (Nat.le_refl _) _⟩
  have na4 : 1 ≤ c.retry := by omega
  by_cases a5 : c.limit < c.retry
  · go_enter Try.func22, Try.ntmps22
    go_wp2
    go_ret
    exact ⟨⟨false, rfl, (fun h => by cases h), fun _ h => by have := h.r2; omega⟩, (Below.refl _ _).alloc (Nat.le_refl _) _⟩
  have na5 : c.retry ≤ c.limit := by omega
  by_cases a6 : 100000 < c.limit
  · go_enter Try.func22, Try.ntmps22
    go_wp2
    go_ret
    exact ⟨⟨false, rfl, (fun h => by cases h), fun _ h => by have := h.l1; omega⟩, (Below.refl _ _).alloc (Nat.le_refl _) _⟩
  have na6 : c.limit ≤ 100000 := by omega
  have hB := Blk.new w 40 #[.int .u64 c.client, .slice N n nc, .int .i64 c.at_, .int .i64 c.turn, .int .u64 c.seq, .bool c.opn, .int .i64 c.kind, .string c.key, .slice D m dc, .int .i64 c.waited, .int .i64 c.retry, .int .i64 c.limit]
  have hbel := (Below.refl w.heap.size w).alloc (Nat.le_refl _) (.cells #[.int .u64 c.client, .slice N n nc, .int .i64 c.at_, .int .i64 c.turn, .int .u64 c.seq, .bool c.opn, .int .i64 c.kind, .string c.key, .slice D m dc, .int .i64 c.waited, .int .i64 c.retry, .int .i64 c.limit] 40)
  obtain ⟨wb, hwb⟩ : ∃ wb, w.alloc (.cells #[.int .u64 c.client, .slice N n nc, .int .i64 c.at_, .int .i64 c.turn, .int .u64 c.seq, .bool c.opn, .int .i64 c.kind, .string c.key, .slice D m dc, .int .i64 c.waited, .int .i64 c.retry, .int .i64 c.limit] 40) = wb := ⟨_, rfl⟩
  rw [hwb] at hB hbel
  have HNR1 := Lib.hid (HNR.out.later hbel)
  have BB := Lib.hid hbel
  have x0 := hB.cell 0
  have x1 := hB.cell 1
  have x2 := hB.cell 2
  have x3 := hB.cell 3
  have x4 := hB.cell 4
  have x5 := hB.cell 5
  have x6 := hB.cell 6
  have x7 := hB.cell 7
  have x8 := hB.cell 8
  have x9 := hB.cell 9
  have x10 := hB.cell 10
  have x11 := hB.cell 11
  clear hbel hB
  simp only [List.getElem?_toArray, List.getElem?_cons_zero, List.getElem?_cons_succ] at x0 x1 x2 x3 x4 x5 x6 x7 x8 x9 x10 x11
  clear a1 a2 a3 a4 a5 a6
  go_enter Try.func22, Try.ntmps22
  go_wp2
  clear hwb
  obtain ⟨bx, hbx⟩ : ∃ bx, w.heap.size = bx := ⟨_, rfl⟩
  rw [hbx] at x0 x1 x2 x3 x4 x5 x6 x7 x8 x9 x10 x11 ⊢
  clear hbx
  go_loopw [3, 4, 39] (fun _ _ vi wr => ∃ k : Nat, k ≤ n ∧ vi = .int .i64 k ∧ wr = wb ∧ Hid (NodesOk c.nodes k)) (fun _ _ vi _ => n - (intOf vi).toNat)
  case atStart => exact ⟨0, by omega, rfl, rfl, Lib.hid (fun i hi => by omega)⟩
  case round =>
    obtain ⟨k, hk, rfl, rfl, hz⟩ := hrel
    by_cases hlt : k < n
    · obtain ⟨ad, rfl, _, hc⟩ := HNR1.out.int_ hlt
      obtain ⟨x, hx⟩ : ∃ x, c.nodes.getD k 0 = x := ⟨_, rfl⟩
      rw [hx] at hc
      have HX := Lib.hid hx
      clear hx
      have bad : Hid (¬ (1 ≤ x ∧ x ≤ 32 ∧ (c.nodes.take k).contains x = false) → ¬ May c) := Lib.hid (fun hnb hm => hnb (by
        have := hm.nodes k (by rw [HN.out]; exact hlt)
        rw [HX.out] at this
        exact this))
      have hsl : ∀ W : World, (Instr.sliceAt 25 (.slice (some ad) n nc) none (some (.int .i64 (k : Int))) none).run Try.prog W = .ok (.slice (some ad) k nc) W := fun W => slice_to Try.underlying25 hi0 hz1 (some ad) n nc k (by omega) W
      by_cases c1 : x < 1
      · go_wp2
        go_ret
        exact ⟨⟨false, rfl, (fun h => by cases h), fun _ => bad.out (fun h => by omega)⟩, BB.out⟩
      have n1 : 1 ≤ x := by omega
      by_cases c2 : 32 < x
      · go_wp2
        go_ret
        exact ⟨⟨false, rfl, (fun h => by cases h), fun _ => bad.out (fun h => by omega)⟩, BB.out⟩
      have n2 : x ≤ 32 := by omega
      clear c1 c2
      have HT := Lib.hid (show Reads wr wr.heap.size 1 (some ad) k ((c.nodes.take k).map iv) from by have := HNR1.out.first' (Nat.le_of_lt hlt); rwa [← List.map_take] at this)
      cases hcon : (c.nodes.take k).contains x with
      | true =>
        have HC := Lib.hid hcon
        clear hcon
        go_wp2_with (go_at_call 38; refine (contains_any _ k _ (c.nodes.take k) x _ (by rw [List.length_take, HN.out]; omega) HT (by omega)).mono ?_; rintro e w1 ⟨rfl, rfl⟩; rw [HC.out])
        go_ret
        exact ⟨⟨false, rfl, (fun h => by cases h), fun _ => bad.out (fun h => by have := h.2.2; rw [HC.out] at this; cases this)⟩, BB.out⟩
      | false =>
        have HC := Lib.hid hcon
        clear hcon
        have H2 := Lib.hid (show NodesOk c.nodes (k + 1) from fun i hi => by
          by_cases e : i = k
          · subst e; rw [HX.out]; exact ⟨n1, n2, HC.out⟩
          · exact hz.out i (by omega))
        clear hz
        go_wp2_with (go_at_call 38; refine (contains_any _ k _ (c.nodes.take k) x _ (by rw [List.length_take, HN.out]; omega) HT (by omega)).mono ?_; rintro e w1 ⟨rfl, rfl⟩; rw [HC.out])
        exact ⟨⟨k + 1, by omega, by go_num, trivial, H2⟩, by simp [intOf]; omega⟩
    · obtain rfl : k = n := by omega
      have HNL : Hid (k ≤ 9223372036854775807) := Lib.hid (by omega)
      have tok1 : True := trivial
      by_cases p1 : 0 ≤ c.at_ ∧ c.at_ < k
      · by_cases p2 : 0 ≤ c.turn ∧ c.turn < k
        · obtain ⟨p1, p3⟩ := p1
          obtain ⟨p2, p4⟩ := p2
          by_cases p5 : c.waited < 0
          · go_wp2_with (first
              | (go_at_call 39; have _t := tok1; refine (place_yes (c := c) (n := k) (N := N) (nc := nc) (m := m) (D := D) (dc := dc) _ HNL.out p1 p3).mono ?_; rintro e w1 ⟨rfl, hb1⟩; clear tok1 _t; have x0 := cell_later hb1 x0; have x1 := cell_later hb1 x1; have x2 := cell_later hb1 x2; have x3 := cell_later hb1 x3; have x4 := cell_later hb1 x4; have x5 := cell_later hb1 x5; have x6 := cell_later hb1 x6; have x7 := cell_later hb1 x7; have x8 := cell_later hb1 x8; have x9 := cell_later hb1 x9; have x10 := cell_later hb1 x10; have x11 := cell_later hb1 x11; have BB := Lib.hid (bel_trans BB.out hb1); clear hb1)
              | (go_at_call 39; refine (place_yes (c := c) (n := k) (N := N) (nc := nc) (m := m) (D := D) (dc := dc) _ HNL.out p2 p4).mono ?_; rintro e w2 ⟨rfl, hb2⟩; have x0 := cell_later hb2 x0; have x1 := cell_later hb2 x1; have x2 := cell_later hb2 x2; have x3 := cell_later hb2 x3; have x4 := cell_later hb2 x4; have x5 := cell_later hb2 x5; have x6 := cell_later hb2 x6; have x7 := cell_later hb2 x7; have x8 := cell_later hb2 x8; have x9 := cell_later hb2 x9; have x10 := cell_later hb2 x10; have x11 := cell_later hb2 x11; have BB := Lib.hid (bel_trans BB.out hb2); clear hb2))
            go_ret
            exact ⟨⟨false, rfl, (fun h => by cases h), fun _ hm => by have := hm.w0; omega⟩, BB.out⟩
          by_cases p6 : c.limit < c.waited
          · have p5' : 0 ≤ c.waited := by omega
            go_wp2_with (first
              | (go_at_call 39; have _t := tok1; refine (place_yes (c := c) (n := k) (N := N) (nc := nc) (m := m) (D := D) (dc := dc) _ HNL.out p1 p3).mono ?_; rintro e w1 ⟨rfl, hb1⟩; clear tok1 _t; have x0 := cell_later hb1 x0; have x1 := cell_later hb1 x1; have x2 := cell_later hb1 x2; have x3 := cell_later hb1 x3; have x4 := cell_later hb1 x4; have x5 := cell_later hb1 x5; have x6 := cell_later hb1 x6; have x7 := cell_later hb1 x7; have x8 := cell_later hb1 x8; have x9 := cell_later hb1 x9; have x10 := cell_later hb1 x10; have x11 := cell_later hb1 x11; have BB := Lib.hid (bel_trans BB.out hb1); clear hb1)
              | (go_at_call 39; refine (place_yes (c := c) (n := k) (N := N) (nc := nc) (m := m) (D := D) (dc := dc) _ HNL.out p2 p4).mono ?_; rintro e w2 ⟨rfl, hb2⟩; have x0 := cell_later hb2 x0; have x1 := cell_later hb2 x1; have x2 := cell_later hb2 x2; have x3 := cell_later hb2 x3; have x4 := cell_later hb2 x4; have x5 := cell_later hb2 x5; have x6 := cell_later hb2 x6; have x7 := cell_later hb2 x7; have x8 := cell_later hb2 x8; have x9 := cell_later hb2 x9; have x10 := cell_later hb2 x10; have x11 := cell_later hb2 x11; have BB := Lib.hid (bel_trans BB.out hb2); clear hb2))
            go_ret
            exact ⟨⟨false, rfl, (fun h => by cases h), fun _ hm => by have := hm.w1; omega⟩, BB.out⟩
          have p5' : 0 ≤ c.waited := by omega
          have p6' : c.waited ≤ c.limit := by omega
          have q1 : c.at_ < c.nodes.length := by rw [HN.out]; exact p3
          have q2 : c.turn < c.nodes.length := by rw [HN.out]; exact p4
          have q3 : 0 < c.nodes.length := by rw [HN.out]; exact na3
          have Q := Lib.hid (And.intro q1 (And.intro q2 q3))
          clear q1 q2 q3 p5 p6
          rcases Nat.lt_or_ge c.seq 4611686018427387904 with p7 | p7
          rotate_left
          · have e7 : decide ((c.seq : Int) < 4611686018427387904) = false := decide_eq_false (by omega)
            have P7 := Lib.hid p7
            clear p7
            go_wp2_with (first
              | (go_at_call 39; have _t := tok1; refine (place_yes (c := c) (n := k) (N := N) (nc := nc) (m := m) (D := D) (dc := dc) _ HNL.out p1 p3).mono ?_; rintro e w1 ⟨rfl, hb1⟩; clear tok1 _t; have x0 := cell_later hb1 x0; have x1 := cell_later hb1 x1; have x2 := cell_later hb1 x2; have x3 := cell_later hb1 x3; have x4 := cell_later hb1 x4; have x5 := cell_later hb1 x5; have x6 := cell_later hb1 x6; have x7 := cell_later hb1 x7; have x8 := cell_later hb1 x8; have x9 := cell_later hb1 x9; have x10 := cell_later hb1 x10; have x11 := cell_later hb1 x11; have BB := Lib.hid (bel_trans BB.out hb1); clear hb1)
              | (go_at_call 39; refine (place_yes (c := c) (n := k) (N := N) (nc := nc) (m := m) (D := D) (dc := dc) _ HNL.out p2 p4).mono ?_; rintro e w2 ⟨rfl, hb2⟩; have x0 := cell_later hb2 x0; have x1 := cell_later hb2 x1; have x2 := cell_later hb2 x2; have x3 := cell_later hb2 x3; have x4 := cell_later hb2 x4; have x5 := cell_later hb2 x5; have x6 := cell_later hb2 x6; have x7 := cell_later hb2 x7; have x8 := cell_later hb2 x8; have x9 := cell_later hb2 x9; have x10 := cell_later hb2 x10; have x11 := cell_later hb2 x11; have BB := Lib.hid (bel_trans BB.out hb2); clear hb2))
            go_ret
            exact ⟨⟨false, rfl, (fun h => by cases h), fun _ hm => Nat.lt_irrefl _ (Nat.lt_of_lt_of_le hm.s1 P7.out)⟩, BB.out⟩
          · have e7 : decide ((c.seq : Int) < 4611686018427387904) = true := decide_eq_true (by omega)
            have P7 := Lib.hid p7
            clear p7
            go_wp2_with (first
              | (go_at_call 39; have _t := tok1; refine (place_yes (c := c) (n := k) (N := N) (nc := nc) (m := m) (D := D) (dc := dc) _ HNL.out p1 p3).mono ?_; rintro e w1 ⟨rfl, hb1⟩; clear tok1 _t; have x0 := cell_later hb1 x0; have x1 := cell_later hb1 x1; have x2 := cell_later hb1 x2; have x3 := cell_later hb1 x3; have x4 := cell_later hb1 x4; have x5 := cell_later hb1 x5; have x6 := cell_later hb1 x6; have x7 := cell_later hb1 x7; have x8 := cell_later hb1 x8; have x9 := cell_later hb1 x9; have x10 := cell_later hb1 x10; have x11 := cell_later hb1 x11; have BB := Lib.hid (bel_trans BB.out hb1); clear hb1)
              | (go_at_call 39; refine (place_yes (c := c) (n := k) (N := N) (nc := nc) (m := m) (D := D) (dc := dc) _ HNL.out p2 p4).mono ?_; rintro e w2 ⟨rfl, hb2⟩; have x0 := cell_later hb2 x0; have x1 := cell_later hb2 x1; have x2 := cell_later hb2 x2; have x3 := cell_later hb2 x3; have x4 := cell_later hb2 x4; have x5 := cell_later hb2 x5; have x6 := cell_later hb2 x6; have x7 := cell_later hb2 x7; have x8 := cell_later hb2 x8; have x9 := cell_later hb2 x9; have x10 := cell_later hb2 x10; have x11 := cell_later hb2 x11; have BB := Lib.hid (bel_trans BB.out hb2); clear hb2))
            go_ret
            have hln := HN.out
            exact ⟨⟨true, rfl, (fun _ => ⟨na1, na2, Q.out.2.2, na4, na5, na6, by rw [hln]; exact hz.out, p1, Q.out.1, p2, Q.out.2.1, p5', p6', P7.out⟩), fun h => by cases h⟩, BB.out⟩
        · obtain ⟨p1, p3⟩ := p1
          have P2 := Lib.hid p2
          clear p2
          go_wp2_with (first
            | (go_at_call 39; have _t := tok1; refine (place_yes (c := c) (n := k) (N := N) (nc := nc) (m := m) (D := D) (dc := dc) _ HNL.out p1 p3).mono ?_; rintro e w1 ⟨rfl, hb1⟩; clear tok1 _t; have x0 := cell_later hb1 x0; have x1 := cell_later hb1 x1; have x2 := cell_later hb1 x2; have x3 := cell_later hb1 x3; have x4 := cell_later hb1 x4; have x5 := cell_later hb1 x5; have x6 := cell_later hb1 x6; have x7 := cell_later hb1 x7; have x8 := cell_later hb1 x8; have x9 := cell_later hb1 x9; have x10 := cell_later hb1 x10; have x11 := cell_later hb1 x11; have BB := Lib.hid (bel_trans BB.out hb1); clear hb1)
            | (go_at_call 39; refine (place_no (c := c) (n := k) (N := N) (nc := nc) (m := m) (D := D) (dc := dc) _ HNL.out (by have := P2.out; omega)).mono ?_; rintro e w2 ⟨rfl, hb2⟩; have x0 := cell_later hb2 x0; have x1 := cell_later hb2 x1; have x2 := cell_later hb2 x2; have x3 := cell_later hb2 x3; have x4 := cell_later hb2 x4; have x5 := cell_later hb2 x5; have x6 := cell_later hb2 x6; have x7 := cell_later hb2 x7; have x8 := cell_later hb2 x8; have x9 := cell_later hb2 x9; have x10 := cell_later hb2 x10; have x11 := cell_later hb2 x11; have BB := Lib.hid (bel_trans BB.out hb2); clear hb2))
          go_ret
          exact ⟨⟨false, rfl, (fun h => by cases h), fun _ hm => by have a := hm.t0; have b := hm.t1; rw [HN.out] at b; exact P2.out ⟨a, b⟩⟩, BB.out⟩
      · have P1 := Lib.hid p1
        clear p1
        go_wp2_with (go_at_call 39; refine (place_no (c := c) (n := k) (N := N) (nc := nc) (m := m) (D := D) (dc := dc) _ HNL.out (by have := P1.out; omega)).mono ?_; rintro e w2 ⟨rfl, hb2⟩; have BB := Lib.hid (bel_trans BB.out hb2); clear hb2)
        go_ret
        exact ⟨⟨false, rfl, (fun h => by cases h), fun _ hm => by have a := hm.a0; have b := hm.a1; rw [HN.out] at b; exact P1.out ⟨a, b⟩⟩, BB.out⟩
end
end Go.Proofs.Ytmamdnikjfmenaa
