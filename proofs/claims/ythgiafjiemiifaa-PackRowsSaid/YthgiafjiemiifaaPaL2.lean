/-
  HEADS of layer 5's statements.
-/
import Derived.Test.YthgiafjiemiifaaPaL1
namespace Go.Proofs.Ythgiafjiemiifaa
open Go.RowKit OctMath
set_option linter.unusedVariables false
theorem pConf_head : pConf ([1, 2], [3]) = [2, 2, 4, 1, 6] := by
  simp [pConf, pList, pInt, zz, putN_small]
theorem rConf_head : resOf (rConf [2, 2]) (([] : List Int), ([] : List Int)) 2 0 = (([], []), 0, 50) := by kernel_rfl
theorem pHd_head : pHd hd0 = [0, 0, 0, 0, 0, 0, 0] := by
  simp [pHd, pId, hd0, id0, pInt, zz, putN_small]
theorem byt_head1 : Byt [2, 2] := fun x hx => by simp at hx; omega
theorem byt_head2 : Byt [2, 2, 4, 1, 6] := fun x hx => by simp at hx; omega
theorem ints_head : IntsOk [1, 2] ∧ IntsOk [3] := ⟨⟨fun y h => by simp at h; rcases h with rfl | rfl <;> exact ⟨by decide, by decide⟩, by decide⟩, ⟨fun y h => by simp at h; subst h; exact ⟨by decide, by decide⟩, by decide⟩⟩
set_option maxRecDepth 100000 in
set_option maxHeartbeats 2000000 in
theorem heads_any (w : World) : Calls Try.prog 21 #[] w fun e w' => e = .returned (.bool true) ∧ Below w.heap.size w w' := by
  have hA : Below w.heap.size w ((w.alloc (.cells #[.int .i64 1, .int .i64 2] 3)).alloc (.cells #[.int .i64 3] 3)) := ((Below.refl _ _).alloc (Nat.le_refl _) _).alloc (by simp) _
  have hR1 : Reads ((w.alloc (.cells #[.int .i64 1, .int .i64 2] 3)).alloc (.cells #[.int .i64 3] 3)) ((w.alloc (.cells #[.int .i64 1, .int .i64 2] 3)).alloc (.cells #[.int .i64 3] 3)).heap.size 1 (some ⟨w.heap.size, 0, none⟩) 2 ([(1 : Int), 2].map iv) :=
    ((Reads.lit w 3 [.int .i64 1, .int .i64 2] 1 2 rfl).alloc (by simp) (.cells #[.int .i64 3] 3)).more (by simp)
  have hR2 : Reads ((w.alloc (.cells #[.int .i64 1, .int .i64 2] 3)).alloc (.cells #[.int .i64 3] 3)) ((w.alloc (.cells #[.int .i64 1, .int .i64 2] 3)).alloc (.cells #[.int .i64 3] 3)).heap.size 1 (some ⟨w.heap.size + 1, 0, none⟩) 1 ([(3 : Int)].map iv) := by
    have h := Reads.lit (w.alloc (.cells #[.int .i64 1, .int .i64 2] 3)) 3 [.int .i64 3] 1 1 rfl
    rw [show (w.alloc (.cells #[.int .i64 1, .int .i64 2] 3)).heap.size = w.heap.size + 1 from by simp] at h
    exact h.more (by simp)
  obtain ⟨w0, ew0⟩ : ∃ w0, ((w.alloc (.cells #[.int .i64 1, .int .i64 2] 3)).alloc (.cells #[.int .i64 3] 3)) = w0 := ⟨_, rfl⟩
  rw [ew0] at hA hR1 hR2
  have HA := Lib.hid hA
  have HR1 := Lib.hid hR1
  have HR2 := Lib.hid hR2
  have tk1 : True := trivial
  clear hA hR1 hR2
  go_enter Try.func21, Try.ntmps21
  go_wp2_with fail
  refine (put_conf none 0 0 [] (some ⟨w.heap.size, 0, none⟩) 2 (some ⟨w.heap.size + 1, 0, none⟩) 1 ([1, 2], [3]) w0 (Lib.hid Reads.none_) HR1 HR2 ints_head (by omega)).mono ?_
  rintro e w1 ⟨A1, c1, rfl, r1, hb⟩
  rw [List.nil_append, pConf_head] at r1
  rw [List.nil_append, pConf_head]
  have R1 := Lib.hid r1
  have HB1 := Lib.hid (HA.out.trans (hb.mono HA.out.size))
  clear r1 hb ew0
  obtain ⟨w2, ew2⟩ : ∃ w2, w1.alloc (.cells #[.int .u8 2, .int .u8 2] 5) = w2 := ⟨_, rfl⟩
  have hb2 : Below w1.heap.size w1 (w1.alloc (.cells #[.int .u8 2, .int .u8 2] 5)) := (Below.refl _ _).alloc (Nat.le_refl _) _
  have hr2 : Reads (w1.alloc (.cells #[.int .u8 2, .int .u8 2] 5)) (w1.alloc (.cells #[.int .u8 2, .int .u8 2] 5)).heap.size 1 (some ⟨w1.heap.size, 0, none⟩) 2 ([2, 2].map bv) := by
    exact (Reads.lit w1 5 [.int .u8 2, .int .u8 2] 1 2 rfl).more (by simp)
  rw [ew2] at hb2 hr2
  have HI2 := Lib.hid (⟨hr2, byt_head1, rfl, Nat.le_refl _, by unfold maxLen; omega, by omega⟩ : InB w2 (some ⟨w1.heap.size, 0, none⟩) 2 2 [2, 2])
  have R2 := Lib.hid (R1.out.later hb2)
  have HB2 := Lib.hid (HB1.out.trans (hb2.mono HB1.out.size))
  clear hb2 hr2
  go_wp2_with fail
  refine (xu_conf (some ⟨w1.heap.size, 0, none⟩) 2 2 [2, 2] 0 w2 HI2).mono ?_
  rw [rConf_head]
  rintro e w3 ⟨hb3, v, rfl, Aa, ca, Ab, cb, rfl, -, -, -⟩
  clear ew2
  have R3 := Lib.hid (R2.out.later hb3)
  have HB3 := Lib.hid (HB2.out.trans (hb3.mono HB2.out.size))
  clear hb3
  obtain ⟨w4, ew4⟩ : ∃ w4, w3.alloc (.cells #[.slice Aa 0 ca, .slice Ab 0 cb] 38) = w4 := ⟨_, rfl⟩
  have hb4 : Below w3.heap.size w3 (w3.alloc (.cells #[.slice Aa 0 ca, .slice Ab 0 cb] 38)) := (Below.refl _ _).alloc (Nat.le_refl _) _
  rw [ew4] at hb4
  have R4 := Lib.hid (R3.out.later hb4)
  have HB4 := Lib.hid (HB3.out.trans (hb4.mono HB3.out.size))
  clear hb4
  obtain ⟨w5, ew5⟩ : ∃ w5, w4.alloc (.cells #[.int .u8 2, .int .u8 2, .int .u8 4, .int .u8 1, .int .u8 6] 5) = w5 := ⟨_, rfl⟩
  have hb5 : Below w4.heap.size w4 (w4.alloc (.cells #[.int .u8 2, .int .u8 2, .int .u8 4, .int .u8 1, .int .u8 6] 5)) := (Below.refl _ _).alloc (Nat.le_refl _) _
  have hr5 : Reads (w4.alloc (.cells #[.int .u8 2, .int .u8 2, .int .u8 4, .int .u8 1, .int .u8 6] 5)) (w4.alloc (.cells #[.int .u8 2, .int .u8 2, .int .u8 4, .int .u8 1, .int .u8 6] 5)).heap.size 1 (some ⟨w4.heap.size, 0, none⟩) 5 ([2, 2, 4, 1, 6].map bv) := by
    exact (Reads.lit w4 5 [.int .u8 2, .int .u8 2, .int .u8 4, .int .u8 1, .int .u8 6] 1 5 rfl).more (by simp)
  rw [ew5] at hb5 hr5
  have R5 := Lib.hid (R4.out.later hb5)
  have HB5 := Lib.hid (HB4.out.trans (hb5.mono HB4.out.size))
  have HR5 := Lib.hid hr5
  clear hb5 hr5
  go_wp2_with fail
  refine (same_any A1 (some ⟨w4.heap.size, 0, none⟩) c1 5 5 5 [2, 2, 4, 1, 6] [2, 2, 4, 1, 6] _ byt_head2 byt_head2 R5.out HR5.out).mono ?_
  rintro e w6 ⟨rfl, rfl⟩
  clear ew4 ew5
  go_wp2_with (go_at_call 8; refine (put_header none 0 0 [] hd0 w5 (Lib.hid Reads.none_) hd0_ok (by omega)).mono ?_; rintro e w7 ⟨A7, c7, rfl, -, hb7⟩; rw [List.nil_append, pHd_head]; have HB7 := Lib.hid (HB5.out.trans (hb7.mono HB5.out.size)); clear hb7)
  go_ret
  exact ⟨rfl, HB7.out⟩
end Go.Proofs.Ythgiafjiemiifaa
