/-
  The reference's Same of callers, where they are the same.
-/
import Derived.Test.YtmamdnikjfmenaaClW9
namespace Go.Proofs.Ytmamdnikjfmenaa
open Go.RowKit
set_option linter.unusedVariables false
set_option maxRecDepth 100000 in
set_option maxHeartbeats 1000000 in
theorem moves_same (A B : Option Addr) (n ca cb : Nat) (a : List Int) (w : World) (R1 : Hid (Reads w w.heap.size 1 A n (a.map iv))) (R2 : Hid (Reads w w.heap.size 1 B n (a.map iv))) (hn : n ≤ 9223372036854775807) :
    Calls Try.prog 40 #[.slice A n ca, .slice B n cb] w fun e w' => e = .returned (.int .i64 0) ∧ ∃ d, w' = w.drewN d := by
  have hM2 : max (n : Int) (n : Int) - min (n : Int) (n : Int) = 0 := by omega
  go_enter Try.func40, Try.ntmps40
  go_wp2
  clear hM2
  go_loopw [5, 6] (fun vc vi wr => ∃ k d : Nat, k ≤ n ∧ vi = .int .i64 k ∧ vc = .int .i64 0 ∧ wr = w.drewN d) (fun _ vi _ => n - (intOf vi).toNat)
  case atStart => exact ⟨0, 0, by omega, rfl, rfl, rfl⟩
  case round =>
    obtain ⟨k, d, hk, rfl, rfl, rfl⟩ := hrel
    by_cases hlt : k < n
    · have d1 : decide (k < n) = true := decide_eq_true hlt
      obtain ⟨a1, rfl, hb1, hc1⟩ := R1.out.int_ hlt
      obtain ⟨a2, rfl, hb2, hc2⟩ := R2.out.int_ hlt
      obtain ⟨x, ex⟩ : ∃ x, a.getD k 0 = x := ⟨_, rfl⟩
      rw [ex] at hc1 hc2
      clear ex
      go_wp2
      go_quiet (fail)
      go_wp2
      exact ⟨⟨k + 1, _, by omega, by go_num, rfl, rfl⟩, by simp [intOf]; omega⟩
    · have d1 : decide (k < n) = false := decide_eq_false hlt
      go_wp2
      go_ret
      exact ⟨rfl, _, rfl⟩
set_option maxRecDepth 100000 in
theorem ints_same (A B : Option Addr) (n ca cb : Nat) (a : List Int) (w : World) (R1 : Hid (Reads w w.heap.size 1 A n (a.map iv))) (R2 : Hid (Reads w w.heap.size 1 B n (a.map iv))) (hn : n ≤ 9223372036854775807) :
    Calls Try.prog 30 #[.slice A n ca, .slice B n cb] w fun e w' => e = .returned (.bool true) ∧ Below w.heap.size w w' := by
  go_enter Try.func30, Try.ntmps30
  go_wp2_with (go_at_call 40; refine (moves_same A B n ca cb a _ R1 R2 hn).mono ?_; rintro e w1 ⟨rfl, d, rfl⟩)
  go_ret
  exact ⟨rfl, bel_drewN (Below.refl _ _) _⟩
theorem same_bytes (A B : Option Addr) (cap cap' n m : Nat) (xs ys : List Nat) (w : World) (hx : Byt xs) (hy : Byt ys) (hr : Reads w w.heap.size 1 A n (xs.map bv)) (hr' : Reads w w.heap.size 1 B m (ys.map bv)) :
    Calls Try.prog 31 #[.slice A n cap, .slice B m cap'] w fun e w' => e = .returned (.bool (decide (xs = ys))) ∧ w = w' := by
  have h1 := run_conv_bytes (P := Try.prog) (src := 33) (dst := 9) (cap := cap) Try.underlying33 Try.underlying5 Try.underlying9 hr
  have h2 := run_conv_bytes (P := Try.prog) (src := 33) (dst := 9) (cap := cap') Try.underlying33 Try.underlying5 Try.underlying9 hr'
  have h3 := strOf_beq hx hy
  go_enter Try.func31, Try.ntmps31
  go_wp2
  go_ret
  exact ⟨rfl, rfl⟩
theorem bytes_true {ls : List Nat} : decide (ls = ls) = true := decide_eq_true rfl
set_option maxRecDepth 100000 in
set_option maxHeartbeats 2000000 in
theorem cal_same (c : Cal) (n : Nat) (N : Option Addr) (nc m : Nat) (D : Option Addr) (dc : Nat) (N' : Option Addr) (nc' : Nat) (D' : Option Addr) (dc' : Nat) (w : World) (h : Hid (CalIn w c n N nc m D dc)) (h' : Hid (CalIn w c n N' nc' m D' dc')) :
    Calls Try.prog 12 #[.agg (c.cs n N nc m D dc), .agg (c.cs n N' nc' m D' dc')] w fun e w' => e = .returned (.bool true) ∧ Below w.heap.size w w' := by
  have hn2 : n ≤ 9223372036854775807 := by have := h.out.n1; have := h.out.n2; unfold maxLen at this; omega
  unfold Cal.cs
  have hb0 := ((Below.refl w.heap.size w).alloc (Nat.le_refl _) (.cells #[.int .u64 c.client, .slice N n nc, .int .i64 c.at_, .int .i64 c.turn, .int .u64 c.seq, .bool c.opn, .int .i64 c.kind, .string c.key, .slice D m dc, .int .i64 c.waited, .int .i64 c.retry, .int .i64 c.limit] 40)).alloc (by simp) (.cells #[.int .u64 c.client, .slice N' n nc', .int .i64 c.at_, .int .i64 c.turn, .int .u64 c.seq, .bool c.opn, .int .i64 c.kind, .string c.key, .slice D' m dc', .int .i64 c.waited, .int .i64 c.retry, .int .i64 c.limit] 40)
  have b0 := (Blk.new w 40 #[.int .u64 c.client, .slice N n nc, .int .i64 c.at_, .int .i64 c.turn, .int .u64 c.seq, .bool c.opn, .int .i64 c.kind, .string c.key, .slice D m dc, .int .i64 c.waited, .int .i64 c.retry, .int .i64 c.limit]).alloc (.cells #[.int .u64 c.client, .slice N' n nc', .int .i64 c.at_, .int .i64 c.turn, .int .u64 c.seq, .bool c.opn, .int .i64 c.kind, .string c.key, .slice D' m dc', .int .i64 c.waited, .int .i64 c.retry, .int .i64 c.limit] 40)
  have b1 := blk_second w (.cells #[.int .u64 c.client, .slice N n nc, .int .i64 c.at_, .int .i64 c.turn, .int .u64 c.seq, .bool c.opn, .int .i64 c.kind, .string c.key, .slice D m dc, .int .i64 c.waited, .int .i64 c.retry, .int .i64 c.limit] 40) 40 #[.int .u64 c.client, .slice N' n nc', .int .i64 c.at_, .int .i64 c.turn, .int .u64 c.seq, .bool c.opn, .int .i64 c.kind, .string c.key, .slice D' m dc', .int .i64 c.waited, .int .i64 c.retry, .int .i64 c.limit]
  obtain ⟨wa, hwa⟩ : ∃ wa, (w.alloc (.cells #[.int .u64 c.client, .slice N n nc, .int .i64 c.at_, .int .i64 c.turn, .int .u64 c.seq, .bool c.opn, .int .i64 c.kind, .string c.key, .slice D m dc, .int .i64 c.waited, .int .i64 c.retry, .int .i64 c.limit] 40)).alloc (.cells #[.int .u64 c.client, .slice N' n nc', .int .i64 c.at_, .int .i64 c.turn, .int .u64 c.seq, .bool c.opn, .int .i64 c.kind, .string c.key, .slice D' m dc', .int .i64 c.waited, .int .i64 c.retry, .int .i64 c.limit] 40) = wa := ⟨_, rfl⟩
  rw [hwa] at hb0 b0 b1
  obtain ⟨bx, hbx⟩ : ∃ bx, w.heap.size = bx := ⟨_, rfl⟩
  have HBX := Lib.hid hbx
  rw [hbx] at b0 b1
  have H1 := Lib.hid (h.out.later hb0)
  have H2 := Lib.hid (h'.out.later hb0)
  have N1 := Lib.hid H1.out.nr
  have N2 := Lib.hid H2.out.nr
  have BB := Lib.hid hb0
  have x0 := b0.cell 0
  have x1 := b0.cell 1
  have x2 := b0.cell 2
  have x3 := b0.cell 3
  have x4 := b0.cell 4
  have x5 := b0.cell 5
  have x6 := b0.cell 6
  have x7 := b0.cell 7
  have x8 := b0.cell 8
  have x9 := b0.cell 9
  have x10 := b0.cell 10
  have x11 := b0.cell 11
  simp only [List.getElem?_toArray, List.getElem?_cons_zero, List.getElem?_cons_succ] at x0 x1 x2 x3 x4 x5 x6 x7 x8 x9 x10 x11
  have y0 := b1.cell 0
  have y1 := b1.cell 1
  have y2 := b1.cell 2
  have y3 := b1.cell 3
  have y4 := b1.cell 4
  have y5 := b1.cell 5
  have y6 := b1.cell 6
  have y7 := b1.cell 7
  have y8 := b1.cell 8
  have y9 := b1.cell 9
  have y10 := b1.cell 10
  have y11 := b1.cell 11
  simp only [List.getElem?_toArray, List.getElem?_cons_zero, List.getElem?_cons_succ] at y0 y1 y2 y3 y4 y5 y6 y7 y8 y9 y10 y11
  clear hb0 b0 b1
  go_enter Try.func12, Try.ntmps12
  go_wp2_with (first
    | (go_at_call 30; clear hwa; refine (ints_same N N' n nc nc' c.nodes _ N1 N2 hn2).mono ?_; rintro e w1 ⟨rfl, hb⟩; have x0 := cell_later hb x0; have x1 := cell_later hb x1; have x2 := cell_later hb x2; have x3 := cell_later hb x3; have x4 := cell_later hb x4; have x5 := cell_later hb x5; have x6 := cell_later hb x6; have x7 := cell_later hb x7; have x8 := cell_later hb x8; have x9 := cell_later hb x9; have x10 := cell_later hb x10; have x11 := cell_later hb x11; have y0 := cell_later hb y0; have y1 := cell_later hb y1; have y2 := cell_later hb y2; have y3 := cell_later hb y3; have y4 := cell_later hb y4; have y5 := cell_later hb y5; have y6 := cell_later hb y6; have y7 := cell_later hb y7; have y8 := cell_later hb y8; have y9 := cell_later hb y9; have y10 := cell_later hb y10; have y11 := cell_later hb y11; have H1 := Lib.hid (H1.out.later hb); have H2 := Lib.hid (H2.out.later hb); have BB := Lib.hid (bel_trans BB.out hb); clear hb)
    | (go_at_call 31; refine (same_bytes D D' dc dc' m m c.data c.data _ H1.out.db H2.out.db H1.out.dr H2.out.dr).mono ?_; rintro e w2 ⟨rfl, rfl⟩; rw [bytes_true]))
  go_ret
  exact ⟨rfl, BB.out⟩
end Go.Proofs.Ytmamdnikjfmenaa
